/- A part of the proof of the law that RowProgChecks shows: lemmas, and contracts of the calls that it reaches. -/
import Derived.Test.YtlhnkfheojlghaaDoorProg
import Derived.Below
import Derived.Deep.Draws
import Derived.Deep.AppendLies
import Derived.Maps.AppendAt
import Derived.OwnWalk
import Derived.Laws.BytesArg
import Derived.Laws.MakeOwn
import Derived.Laws.OwnMore
import Derived.Deep.OwnRows
import Derived.Tactics
import Derived.Lib.ConvBytes
import Derived.Laws.Slices
import Derived.WalkKit
import Derived.KernelRfl
import Derived.RowKit3
import Derived.Deep.LoopGhost
import Derived.Deep.QuietTactic
import Derived.BigQuiet
import Derived.WideLaws
import Derived.Deep.DeepCutAuto
import Derived.Deep.CutBlock
import Derived.Deep.RegionHeld3
import Derived.Laws.Rows
import Derived.Lib.AppendStr
import Derived.ArgAppend
import Derived.Laws.IdiomCopy
import Derived.OrdersHeld
import Derived.Laws.BitsLemmas
import Derived.RowKit
import Derived.Test.YtlhnkfheojlghaaDoorZPK0
import Derived.Test.YtlhnkfheojlghaaDoorZPK1
set_option linter.unusedVariables false
set_option linter.unusedSimpArgs false
section
namespace Go.Proofs.YtlhnkfheojlghaaDoor.Pr
open Go.RowKit Go.Proofs.YtlhnkfheojlghaaDoorW.PrintWords Go.Proofs.YtlhnkfheojlghaaDoorW.PrintLast Go.Proofs.YtlhnkfheojlghaaDoorW.PrintMore
attribute [local go_sem] max2_int min2_int max_two min_two max_three min_three max_four min_four
attribute [local go_sem high] eqA98
mutual
def minstrelref13_alone.j0 : Nat → Bool → Int → Int → List (S94) → List (S36) → List (S98) → List (S27) → Int → Int → List (S94) → List (S36) → List (S98) → List (S27) → Option (Int)
 | 0, _, _, _, _, _, _, _, _, _, _, _, _, _ => none
 | k + 1, x43, x148000, x148001, x148002, x148003, x148004, x148005, x149000, x149001, x149002, x149003, x149004, x149005 => if x43 = true then (some 1) else (minstrelref13_alone.l0 k 0 x148000 x148001 x148002 x148003 x148004 x148005 x149000 x149001 x149002 x149003 x149004 x149005)
def minstrelref13_alone.l0 : Nat → Int → Int → Int → List (S94) → List (S36) → List (S98) → List (S27) → Int → Int → List (S94) → List (S36) → List (S98) → List (S27) → Option (Int)
 | 0, _, _, _, _, _, _, _, _, _, _, _, _, _ => none
 | k + 1, x7, x148000, x148001, x148002, x148003, x148004, x148005, x149000, x149001, x149002, x149003, x149004, x149005 => if x7 < (x148004.length : Int) then (if 0 ≤ x7 then (if ((rd_T98 x148004 x7).f0) < 0 then (some 1) else (if ((rd_T98 x148004 x7).f0) > 4 then (some 1) else ((minstrelref08_Normal.f k ((rd_T98 x148004 x7).f0) ((rd_T98 x148004 x7).f1) ((rd_T98 x148004 x7).f2) ((rd_T98 x148004 x7).f3)).bind fun bt151 => (if (!(bt151.1 == ((rd_T98 x148004 x7).f0)) || (!(bt151.2.1 == ((rd_T98 x148004 x7).f1)) || (!(bt151.2.2.1.toList == (((rd_T98 x148004 x7).f2).toList)) || (!(bt151.2.2.2 == ((rd_T98 x148004 x7).f3)))))) = true then (some 1) else (minstrelref13_alone.l0 k (wrap64 (x7 + 1)) x148000 x148001 x148002 x148003 x148004 x148005 x149000 x149001 x149002 x149003 x149004 x149005))))) else (none)) else (if 0 ≤ (wrap64 ((x148003.length : Int) - 1)) then (if (wrap64 ((x148003.length : Int) - 1)) < (x148003.length : Int) then (if ((rd_T36 x148003 (wrap64 ((x148003.length : Int) - 1))).f0) = 29 then (minstrelref13_alone.j2 k false x148000 x148001 x148002 x148003 x148004 x148005 x149000 x149001 x149002 x149003 x149004 x149005) else (if ((rd_T36 x148003 (wrap64 ((x148003.length : Int) - 1))).f0) = 33 then (minstrelref13_alone.j2 k false x148000 x148001 x148002 x148003 x148004 x148005 x149000 x149001 x149002 x149003 x149004 x149005) else (minstrelref13_alone.j2 k (((rd_T36 x148003 (wrap64 ((x148003.length : Int) - 1))).f0) != 34) x148000 x148001 x148002 x148003 x148004 x148005 x149000 x149001 x149002 x149003 x149004 x149005))) else (none)) else (none))
def minstrelref13_alone.j2 : Nat → Bool → Int → Int → List (S94) → List (S36) → List (S98) → List (S27) → Int → Int → List (S94) → List (S36) → List (S98) → List (S27) → Option (Int)
 | 0, _, _, _, _, _, _, _, _, _, _, _, _, _ => none
 | k + 1, x88, x148000, x148001, x148002, x148003, x148004, x148005, x149000, x149001, x149002, x149003, x149004, x149005 => if x88 = true then (some 1) else (minstrelref13_alone.l1 k 0 x148000 x148001 x148002 x148003 x148004 x148005 x149000 x149001 x149002 x149003 x149004 x149005)
def minstrelref13_alone.l1 : Nat → Int → Int → Int → List (S94) → List (S36) → List (S98) → List (S27) → Int → Int → List (S94) → List (S36) → List (S98) → List (S27) → Option (Int)
 | 0, _, _, _, _, _, _, _, _, _, _, _, _, _ => none
 | k + 1, x10, x148000, x148001, x148002, x148003, x148004, x148005, x149000, x149001, x149002, x149003, x149004, x149005 => if x10 < (x148002.length : Int) then (if 0 ≤ x10 then (if (rd_T94 x148002 x10).f0 = true then (if ((rd_T94 x148002 x10).f1) < 0 then (some 1) else (if ((rd_T94 x148002 x10).f1) ≥ x149001 then (some 1) else (minstrelref13_alone.l1 k (wrap64 (x10 + 1)) x148000 x148001 x148002 x148003 x148004 x148005 x149000 x149001 x149002 x149003 x149004 x149005))) else (if ((rd_T94 x148002 x10).f1) < 0 then (some 1) else (if ((rd_T94 x148002 x10).f1) ≥ (x149002.length : Int) then (some 1) else (minstrelref13_alone.l1 k (wrap64 (x10 + 1)) x148000 x148001 x148002 x148003 x148004 x148005 x149000 x149001 x149002 x149003 x149004 x149005)))) else (none)) else (minstrelref13_alone.l2 k 0 x148000 x148001 x148002 x148003 x148004 x148005)
def minstrelref13_alone.l2 : Nat → Int → Int → Int → List (S94) → List (S36) → List (S98) → List (S27) → Option (Int)
 | 0, _, _, _, _, _, _, _ => none
 | k + 1, x13, x148000, x148001, x148002, x148003, x148004, x148005 => if x13 < (x148003.length : Int) then (if 0 ≤ x13 then ((minstrelref13_can.f k x148000 x148001 x148002 x148003 x148004 x148005 ((rd_T36 x148003 x13).f0) ((rd_T36 x148003 x13).f1) ((rd_T36 x148003 x13).f2) ((rd_T36 x148003 x13).f3)).bind fun t159 => (if t159 = true then (minstrelref13_alone.l2 k (wrap64 (x13 + 1)) x148000 x148001 x148002 x148003 x148004 x148005) else (some 1))) else (none)) else (some 0)
end
def minstrelref13_alone.f (k : Nat) (a0_0 : Int) (a0_1 : Int) (l0_2 : List (S94)) (l0_3 : List (S36)) (l0_4 : List (S98)) (l0_5 : List (S27)) (a1_0 : Int) (a1_1 : Int) (l1_2 : List (S94)) (l1_3 : List (S36)) (l1_4 : List (S98)) (l1_5 : List (S27)) (a2 : Bool) : Option (Int) := if a0_0 < 0 then (minstrelref13_alone.j0 k true a0_0 a0_1 l0_2 l0_3 l0_4 l0_5 a1_0 a1_1 l1_2 l1_3 l1_4 l1_5) else (if a0_0 > 30 then (minstrelref13_alone.j0 k true a0_0 a0_1 l0_2 l0_3 l0_4 l0_5 a1_0 a1_1 l1_2 l1_3 l1_4 l1_5) else (if a0_0 > a0_1 then (minstrelref13_alone.j0 k true a0_0 a0_1 l0_2 l0_3 l0_4 l0_5 a1_0 a1_1 l1_2 l1_3 l1_4 l1_5) else (if (l0_3.length : Int) = 0 then (minstrelref13_alone.j0 k true a0_0 a0_1 l0_2 l0_3 l0_4 l0_5 a1_0 a1_1 l1_2 l1_3 l1_4 l1_5) else (if a2 = true then (minstrelref13_alone.j0 k (decide ((l0_2.length : Int) > 0)) a0_0 a0_1 l0_2 l0_3 l0_4 l0_5 a1_0 a1_1 l1_2 l1_3 l1_4 l1_5) else (minstrelref13_alone.j0 k false a0_0 a0_1 l0_2 l0_3 l0_4 l0_5 a1_0 a1_1 l1_2 l1_3 l1_4 l1_5)))))
def minstrelref13_alone.T7 : Bool × List (List Nat × List Nat) := (true, [([], []), ([0], [0]), ([1], [1]), ([2], [2]), ([3], [3]), ([4, 3], [3, 4]), ([5, 3], [3, 5]), ([3, 6], [3, 6]), ([7, 3], [7]), ([8], [8]), ([9, 8, 8], [8, 9]), ([8], [8]), ([10, 11, 8], [8, 10, 11]), ([8, 12], [8, 12])])
def minstrelref13_alone.B7 : List Nat := [0, 1, 3, 7, 15, 31, 63, 127, 255, 511, 1023, 511, 4095, 8191]
theorem minstrelref13_alone.tab7 : rtab .any (opsOf Tryd.f43 7) = minstrelref13_alone.T7 := by kernel_rfl
theorem minstrelref13_alone.bits7 : waitsOk minstrelref13_alone.T7.2 minstrelref13_alone.B7 = true := by kernel_rfl
def minstrelref13_alone.T15 : Bool × List (List Nat × List Nat) := (true, [([], []), ([0], [0]), ([], []), ([1, 2], [1, 2]), ([3], [3]), ([], []), ([5], [5]), ([6], [6]), ([], []), ([8, 4, 0, 1, 2, 3, 4, 8], [4, 8]), ([7, 9, 0, 1, 2, 3, 4, 5, 6, 7, 8, 9], [7])])
def minstrelref13_alone.B15 : List Nat := [0, 1, 0, 7, 15, 0, 32, 96, 0, 287, 1023]
theorem minstrelref13_alone.tab15 : rtab .any (opsOf Tryd.f43 15) = minstrelref13_alone.T15 := by kernel_rfl
theorem minstrelref13_alone.bits15 : waitsOk minstrelref13_alone.T15.2 minstrelref13_alone.B15 = true := by kernel_rfl
def minstrelref13_alone.T23 : Bool × List (List Nat × List Nat) := (true, [([], []), ([], []), ([1], [1]), ([], []), ([2, 3], [2, 3]), ([4], [4]), ([0, 5], [0, 5]), ([6], [6])])
def minstrelref13_alone.B23 : List Nat := [0, 0, 2, 0, 14, 30, 63, 127]
theorem minstrelref13_alone.tab23 : rtab .any (opsOf Tryd.f43 23) = minstrelref13_alone.T23 := by kernel_rfl
theorem minstrelref13_alone.bits23 : waitsOk minstrelref13_alone.T23.2 minstrelref13_alone.B23 = true := by kernel_rfl
set_option maxHeartbeats 8000000 in
set_option maxRecDepth 100000 in
theorem minstrelref13_alone.calls (k : Nat) (a0_0 : Int) (a0_1 : Int) (A0_2 : Option Addr) (c0_2 : Nat) (l0_2 : List (S94)) (A0_3 : Option Addr) (c0_3 : Nat) (l0_3 : List (S36)) (A0_4 : Option Addr) (c0_4 : Nat) (l0_4 : List (S98)) (A0_5 : Option Addr) (c0_5 : Nat) (l0_5 : List (S27)) (a1_0 : Int) (a1_1 : Int) (A1_2 : Option Addr) (c1_2 : Nat) (l1_2 : List (S94)) (A1_3 : Option Addr) (c1_3 : Nat) (l1_3 : List (S36)) (A1_4 : Option Addr) (c1_4 : Nat) (l1_4 : List (S98)) (A1_5 : Option Addr) (c1_5 : Nat) (l1_5 : List (S27)) (a2 : Bool) (r : Int) (w : World) (hr0_2 : Kd.C k94 w A0_2 l0_2.length l0_2) (hc0_2 : l0_2.length ≤ c0_2) (hr0_3 : Kd.C k36 w A0_3 l0_3.length l0_3) (hc0_3 : l0_3.length ≤ c0_3) (hr0_4 : Kd.C k98 w A0_4 l0_4.length l0_4) (hc0_4 : l0_4.length ≤ c0_4) (hr0_5 : Kd.C k27 w A0_5 l0_5.length l0_5) (hc0_5 : l0_5.length ≤ c0_5) (hr1_2 : Kd.C k94 w A1_2 l1_2.length l1_2) (hc1_2 : l1_2.length ≤ c1_2) (hr1_3 : Kd.C k36 w A1_3 l1_3.length l1_3) (hc1_3 : l1_3.length ≤ c1_3) (hr1_4 : Kd.C k98 w A1_4 l1_4.length l1_4) (hc1_4 : l1_4.length ≤ c1_4) (hr1_5 : Kd.C k27 w A1_5 l1_5.length l1_5) (hc1_5 : l1_5.length ≤ c1_5) (h : minstrelref13_alone.f k a0_0 a0_1 l0_2 l0_3 l0_4 l0_5 a1_0 a1_1 l1_2 l1_3 l1_4 l1_5 a2 = some r) :
  Calls Tryd.prog 43 #[.agg #[.int .i64 a0_0, .int .i64 a0_1, .slice A0_2 l0_2.length c0_2, .slice A0_3 l0_3.length c0_3, .slice A0_4 l0_4.length c0_4, .slice A0_5 l0_5.length c0_5], .agg #[.int .i64 a1_0, .int .i64 a1_1, .slice A1_2 l1_2.length c1_2, .slice A1_3 l1_3.length c1_3, .slice A1_4 l1_4.length c1_4, .slice A1_5 l1_5.length c1_5], .bool a2] w fun e w' => e = .returned (.int .i64 r) ∧ Below w.heap.size w w' := by
 have hu27 := Tryd.underlying27
 have hu98 := Tryd.underlying98
 have hu94 := Tryd.underlying94
 have hu36 := Tryd.underlying36
 have HR0_2 := am hr0_2
 have HC0_2 := am hc0_2
 clear hr0_2 hc0_2
 have HR0_3 := am hr0_3
 have HC0_3 := am hc0_3
 clear hr0_3 hc0_3
 have HR0_4 := am hr0_4
 have HC0_4 := am hc0_4
 clear hr0_4 hc0_4
 have HR0_5 := am hr0_5
 have HC0_5 := am hc0_5
 clear hr0_5 hc0_5
 have HR1_2 := am hr1_2
 have HC1_2 := am hc1_2
 clear hr1_2 hc1_2
 have HR1_3 := am hr1_3
 have HC1_3 := am hc1_3
 clear hr1_3 hc1_3
 have HR1_4 := am hr1_4
 have HC1_4 := am hc1_4
 clear hr1_4 hc1_4
 have HR1_5 := am hr1_5
 have HC1_5 := am hc1_5
 clear hr1_5 hc1_5
 have HB := am (Below.refl w.heap.size w)
 have H : (if a0_0 < 0 then (minstrelref13_alone.j0 k true a0_0 a0_1 l0_2 l0_3 l0_4 l0_5 a1_0 a1_1 l1_2 l1_3 l1_4 l1_5) else (if a0_0 > 30 then (minstrelref13_alone.j0 k true a0_0 a0_1 l0_2 l0_3 l0_4 l0_5 a1_0 a1_1 l1_2 l1_3 l1_4 l1_5) else (if a0_0 > a0_1 then (minstrelref13_alone.j0 k true a0_0 a0_1 l0_2 l0_3 l0_4 l0_5 a1_0 a1_1 l1_2 l1_3 l1_4 l1_5) else (if (l0_3.length : Int) = 0 then (minstrelref13_alone.j0 k true a0_0 a0_1 l0_2 l0_3 l0_4 l0_5 a1_0 a1_1 l1_2 l1_3 l1_4 l1_5) else (if a2 = true then (minstrelref13_alone.j0 k (decide ((l0_2.length : Int) > 0)) a0_0 a0_1 l0_2 l0_3 l0_4 l0_5 a1_0 a1_1 l1_2 l1_3 l1_4 l1_5) else (minstrelref13_alone.j0 k false a0_0 a0_1 l0_2 l0_3 l0_4 l0_5 a1_0 a1_1 l1_2 l1_3 l1_4 l1_5)))))) = some r := h
 clear h
 have HC4 := am H
 clear H
 go_enter Tryd.func43, Tryd.ntmps43
 go_upto_region 1 with (first | ((with_reducible refine gate_dst (N := 3) rfl ?_); (try (refine gate_guard (by rfl) ?_; dsimp only)); refine box_event ?hg (N := 3) ?hd (cs := #[.int .i64 a0_0, .int .i64 a0_1, .slice A0_2 l0_2.length c0_2, .slice A0_3 l0_3.length c0_3, .slice A0_4 l0_4.length c0_4, .slice A0_5 l0_5.length c0_5]) (t := 27) ?hr ?_; (case hd => rfl); (case hg => rfl); (case hr => first | (go_simp; done) | (go_simp; rfl)); intro gb147 hg w5 hbox hb; have BK147 := am (hbox); have GW147 := am ((by rw [hg]; exact (below_size pB) : w.heap.size ≤ gb147)); have GE147 := am ((by rw [hg]; exact (below_size pB) : w.heap.size ≤ gb147)); replace HB := am (below_step pB hb); clear hb hbox hg) | ((with_reducible refine gate_dst (N := 4) rfl ?_); (try (refine gate_guard (by rfl) ?_; dsimp only)); refine box_event ?hg (N := 4) ?hd (cs := #[.int .i64 a1_0, .int .i64 a1_1, .slice A1_2 l1_2.length c1_2, .slice A1_3 l1_3.length c1_3, .slice A1_4 l1_4.length c1_4, .slice A1_5 l1_5.length c1_5]) (t := 27) ?hr ?_; (case hd => rfl); (case hg => rfl); (case hr => first | (go_simp; done) | (go_simp; rfl)); intro gb148 hg w6 hbox hb; have BK148 := am (hbox); have GW148 := am ((by rw [hg]; exact (below_size pB) : w.heap.size ≤ gb148)); have GE148 := am ((by rw [hg]; exact (below_size pB) : w.heap.size ≤ gb148)); have NB147_148 := am ((by rw [hg]; exact Nat.ne_of_lt (pkl BK147.out) : gb147 ≠ gb148)); have NB148_147 := am ((by rw [hg]; exact Nat.ne_of_gt (pkl BK147.out) : gb148 ≠ gb147)); replace BK147 := am (pkb BK147.out hb); replace HB := am (below_step pB hb); clear hb hbox hg))
 (try simp only [Act.put, List.setIfInBounds_toArray, List.set_cons_zero, List.set_cons_succ])
 go_cut [43] (fun v43 wc => ∃ (kq : Nat) (x43_3 : Bool), v43 = .bool x43_3 ∧ Aside0 (minstrelref13_alone.j0 kq x43_3 a0_0 a0_1 l0_2 l0_3 l0_4 l0_5 a1_0 a1_1 l1_2 l1_3 l1_4 l1_5 = some r) ∧ Aside0 (kq ≤ k) ∧ Aside0 (wc.heap[gb147]? = some (.cells #[.int .i64 a0_0, .int .i64 a0_1, (.slice A0_2 l0_2.length c0_2), (.slice A0_3 l0_3.length c0_3), (.slice A0_4 l0_4.length c0_4), (.slice A0_5 l0_5.length c0_5)] 27 (0, 0))) ∧ Aside0 (wc.heap[gb148]? = some (.cells #[.int .i64 a1_0, .int .i64 a1_1, (.slice A1_2 l1_2.length c1_2), (.slice A1_3 l1_3.length c1_3), (.slice A1_4 l1_4.length c1_4), (.slice A1_5 l1_5.length c1_5)] 27 (0, 0))) ∧ Aside0 (Below w.heap.size w wc))
 case first =>
  have H := HC4.out
  clear HC4
  by_cases c7 : a0_0 < 0
  ·rw [if_pos c7] at H
   have c7b0 : decide (a0_0 < 0) = true := decide_eq_true c7
   clear c7
   (first | rw [c7b0] | (simp only [i64_w, i32_w]; rw [c7b0]) | rw [c7b1] | (simp only [i64_w, i32_w]; rw [c7b1]) | skip)
   have H' := am H
   clear H
   have hnb8 := NB147_148.out
   have hnc8 := NB148_147.out
   have q9 := cf6 BK147.out
   go_wp2
   go_meet
   case rel => exact ⟨_, (true), (by first | rfl | (simp; done) | (simp [*]; done)), H', ⟨by first | omega | exact Nat.le_refl _⟩, ⟨by (with_reducible repeat (first | refine blk_drewN ?_ _ | refine blk_drew ?_ | refine blk_alloc ?_ _)); exact BK147.out⟩, ⟨by (with_reducible repeat (first | refine blk_drewN ?_ _ | refine blk_drew ?_ | refine blk_alloc ?_ _)); exact BK148.out⟩, ⟨pB⟩⟩
  ·rw [if_neg c7] at H
   have c7b0 : decide (a0_0 < 0) = false := decide_eq_false c7
   clear c7
   (first | rw [c7b0] | (simp only [i64_w, i32_w]; rw [c7b0]) | rw [c7b1] | (simp only [i64_w, i32_w]; rw [c7b1]) | skip)
   by_cases c10 : a0_0 > 30
   ·rw [if_pos c10] at H
    have c10b0 : decide (30 < a0_0) = true := decide_eq_true c10
    clear c10
    have H' := am H
    clear H
    have hnb11 := NB147_148.out
    have hnc11 := NB148_147.out
    have q12 := cf6 BK147.out
    go_wp2
    go_meet
    case rel => exact ⟨_, (true), (by first | rfl | (simp; done) | (simp [*]; done)), H', ⟨by first | omega | exact Nat.le_refl _⟩, ⟨by (with_reducible repeat (first | refine blk_drewN ?_ _ | refine blk_drew ?_ | refine blk_alloc ?_ _)); exact BK147.out⟩, ⟨by (with_reducible repeat (first | refine blk_drewN ?_ _ | refine blk_drew ?_ | refine blk_alloc ?_ _)); exact BK148.out⟩, ⟨pB⟩⟩
   ·rw [if_neg c10] at H
    have c10b0 : decide (30 < a0_0) = false := decide_eq_false c10
    clear c10
    by_cases c13 : a0_0 > a0_1
    ·rw [if_pos c13] at H
     have c13b0 : decide (a0_1 < a0_0) = true := decide_eq_true c13
     clear c13
     have H' := am H
     clear H
     have hnb14 := NB147_148.out
     have hnc14 := NB148_147.out
     have q15 := cf6 BK147.out
     go_wp2
     go_meet
     case rel => exact ⟨_, (true), (by first | rfl | (simp; done) | (simp [*]; done)), H', ⟨by first | omega | exact Nat.le_refl _⟩, ⟨by (with_reducible repeat (first | refine blk_drewN ?_ _ | refine blk_drew ?_ | refine blk_alloc ?_ _)); exact BK147.out⟩, ⟨by (with_reducible repeat (first | refine blk_drewN ?_ _ | refine blk_drew ?_ | refine blk_alloc ?_ _)); exact BK148.out⟩, ⟨pB⟩⟩
    ·rw [if_neg c13] at H
     have c13b0 : decide (a0_1 < a0_0) = false := decide_eq_false c13
     clear c13
     by_cases c16 : (l0_3.length : Int) = 0
     ·rw [if_pos c16] at H
      have c16b0 : ((l0_3.length : Int) == 0) = true := beq_iff_eq.mpr c16
      have c16b1 : ((l0_3.length : Int) != 0) = false := bne_eq_false_iff_eq.mpr c16
      clear c16
      have H' := am H
      clear H
      have hnb17 := NB147_148.out
      have hnc17 := NB148_147.out
      have q18 := cf6 BK147.out
      go_wp2
      go_meet
      case rel => exact ⟨_, (true), (by first | rfl | (simp; done) | (simp [*]; done)), H', ⟨by first | omega | exact Nat.le_refl _⟩, ⟨by (with_reducible repeat (first | refine blk_drewN ?_ _ | refine blk_drew ?_ | refine blk_alloc ?_ _)); exact BK147.out⟩, ⟨by (with_reducible repeat (first | refine blk_drewN ?_ _ | refine blk_drew ?_ | refine blk_alloc ?_ _)); exact BK148.out⟩, ⟨pB⟩⟩
     ·rw [if_neg c16] at H
      have c16b0 : ((l0_3.length : Int) == 0) = false := beq_eq_false_iff_ne.mpr c16
      have c16b1 : ((l0_3.length : Int) != 0) = true := bne_iff_ne.mpr c16
      have c16b2 : ¬ (l0_3 = []) := fun h_ => c16 (by rw [h_]; rfl)
      by_cases c19 : a2 = true
      ·subst c19
       rw [if_pos rfl] at H
       have H' := am H
       clear H
       have hnb20 := NB147_148.out
       have hnc20 := NB148_147.out
       have q21 := cf6 BK147.out
       go_wp2
       go_meet
       case rel => exact ⟨_, (decide ((l0_2.length : Int) > 0)), (by first | rfl | (simp; done) | (simp [*]; done)), H', ⟨by first | omega | exact Nat.le_refl _⟩, ⟨by (with_reducible repeat (first | refine blk_drewN ?_ _ | refine blk_drew ?_ | refine blk_alloc ?_ _)); exact BK147.out⟩, ⟨by (with_reducible repeat (first | refine blk_drewN ?_ _ | refine blk_drew ?_ | refine blk_alloc ?_ _)); exact BK148.out⟩, ⟨pB⟩⟩
      ·replace c19 := Bool.eq_false_iff.mpr c19
       subst c19
       rw [if_neg (show ¬ (false = true) by decide)] at H
       have H' := am H
       clear H
       have hnb22 := NB147_148.out
       have hnc22 := NB148_147.out
       have q23 := cf6 BK147.out
       go_wp2
       go_meet
       case rel => exact ⟨_, (false), (by first | rfl | (simp; done) | (simp [*]; done)), H', ⟨by first | omega | exact Nat.le_refl _⟩, ⟨by (with_reducible repeat (first | refine blk_drewN ?_ _ | refine blk_drew ?_ | refine blk_alloc ?_ _)); exact BK147.out⟩, ⟨by (with_reducible repeat (first | refine blk_drewN ?_ _ | refine blk_drew ?_ | refine blk_alloc ?_ _)); exact BK148.out⟩, ⟨pB⟩⟩
 case rest =>
  clear HC4
  try clear c1
  try clear c2
  try clear p2
  try clear c4
  try clear c7
  try clear c7b0
  try clear c7b1
  try clear c8
  try clear c10
  try clear c10b0
  try clear c11
  try clear c13
  try clear c13b0
  try clear c14
  try clear c16
  try clear c16b0
  try clear c16b1
  try clear c16b2
  try clear c17
  try clear c19
  try clear c20
  try clear c22
  try clear q12 q15 q18 q21 q23 q9
  obtain ⟨kq, x43_3, rfl, HA, HJ3, BK147, BK148, HB⟩ := hcut
  cases kq with
  | zero => exact absurd HA.out (by simp [minstrelref13_alone.j0])
  | succ kj3 =>
   have H := HA.out
   clear HA
   simp only [minstrelref13_alone.j0] at H
   by_cases c24 : x43_3 = true
   ·subst c24
    rw [if_pos rfl] at H
    obtain rfl := Option.some.inj H
    go_wp2
    go_ret
    exact ⟨pE, pB⟩
   ·replace c24 := Bool.eq_false_iff.mpr c24
    subst c24
    rw [if_neg (show ¬ (false = true) by decide)] at H
    have H' := am H
    clear H
    go_wp2
    go_loopg [7] kj3 (fun kq v7 w' => ∃ (x7_2 : Int), v7 = .int .i64 x7_2 ∧ Aside0 (minstrelref13_alone.l0 kq x7_2 a0_0 a0_1 l0_2 l0_3 l0_4 l0_5 a1_0 a1_1 l1_2 l1_3 l1_4 l1_5 = some r) ∧ Aside0 (kq ≤ kj3) ∧ Aside0 (w'.heap[gb147]? = some (.cells #[.int .i64 a0_0, .int .i64 a0_1, (.slice A0_2 l0_2.length c0_2), (.slice A0_3 l0_3.length c0_3), (.slice A0_4 l0_4.length c0_4), (.slice A0_5 l0_5.length c0_5)] 27 (0, 0))) ∧ Aside0 (w'.heap[gb148]? = some (.cells #[.int .i64 a1_0, .int .i64 a1_1, (.slice A1_2 l1_2.length c1_2), (.slice A1_3 l1_3.length c1_3), (.slice A1_4 l1_4.length c1_4), (.slice A1_5 l1_5.length c1_5)] 27 (0, 0))) ∧ Aside0 (Below w.heap.size w w'))
    case atStart => exact ⟨(0), (by first | rfl | (simp; done) | (simp [*]; done)), H', ⟨Nat.le_refl _⟩, ⟨by (with_reducible repeat (first | refine blk_drewN ?_ _ | refine blk_drew ?_ | refine blk_alloc ?_ _)); exact BK147.out⟩, ⟨by (with_reducible repeat (first | refine blk_drewN ?_ _ | refine blk_drew ?_ | refine blk_alloc ?_ _)); exact BK148.out⟩, ⟨pB⟩⟩
    case round =>
     clear H'
     try clear c1
     try clear c2
     try clear p2
     try clear c4
     try clear c7
     try clear c7b0
     try clear c7b1
     try clear c8
     try clear c10
     try clear c10b0
     try clear c11
     try clear c13
     try clear c13b0
     try clear c14
     try clear c16
     try clear c16b0
     try clear c16b1
     try clear c16b2
     try clear c17
     try clear c19
     try clear c20
     try clear c22
     try clear c24
     try clear q12 q15 q18 q21 q23 q9
     try clear p2
     obtain ⟨x7_2, rfl, HA, HK2, BK147, BK148, HB⟩ := hrel
     cases gk with
     | zero => exact absurd HA.out (by simp [minstrelref13_alone.l0])
     | succ k2 =>
      have H := HA.out
      clear HA
      simp only [minstrelref13_alone.l0] at H
      by_cases c25 : x7_2 < (l0_4.length : Int)
      ·rw [if_pos c25] at H
       have c25b0 : decide (x7_2 < (l0_4.length : Int)) = true := decide_eq_true c25
       clear c25
       by_cases c26 : 0 ≤ x7_2
       ·rw [if_pos c26] at H
        have c26b0 : decide (0 ≤ x7_2) = true := decide_eq_true c26
        clear c26
        by_cases c27 : ((rd_T98 l0_4 x7_2).f0) < 0
        ·rw [if_pos c27] at H
         have c27b0 : decide (((rd_T98 l0_4 x7_2).f0) < 0) = true := decide_eq_true c27
         clear c27
         obtain rfl := Option.some.inj H
         have hnb28 := NB147_148.out
         have hnc28 := NB148_147.out
         have q29 := cf6 BK147.out
         have p149 : 0 ≤ (x7_2 : Int) := pD
         have q149 : x7_2 < (l0_4.length : Int) := pD
         obtain ⟨ad149, e149, hx149_0, hx149_1, hx149_2, hx149_3⟩ := at_T98 HR0_4.out x7_2 p149 q149
         cases e149
         replace hx149_0 := (HB.out.cell (World.block_lt_of_cell? w _ hx149_0)).trans hx149_0
         replace hx149_1 := (HB.out.cell (World.block_lt_of_cell? w _ hx149_1)).trans hx149_1
         replace hx149_2 := (HB.out.cell (World.block_lt_of_cell? w _ hx149_2)).trans hx149_2
         replace hx149_3 := (HB.out.cell (World.block_lt_of_cell? w _ hx149_3)).trans hx149_3
         replace p149 := eq_true p149
         replace q149 := eq_true q149
         try go_wp2_with (first | ((with_reducible refine gate_dst (N := 8) rfl ?_); (try (refine gate_guard (by rfl) ?_; dsimp only)); refine box_event ?hg (N := 8) ?hd (cs := #[.int .i64 0, .int .u64 0, .string (⟨#[]⟩ : ByteArray), .int .i64 0]) (t := 98) ?hr ?_; (case hd => rfl); (case hg => rfl); (case hr => first | (go_simp; done) | (go_simp; rfl)); intro gb150 hg w30 hbox hb; have BK150 := am (hbox); have GW150 := am ((by rw [hg]; exact (below_size pB) : w.heap.size ≤ gb150)); have GE150 := am ((by rw [hg]; exact (below_size pB) : w.heap.size ≤ gb150)); have NB147_150 := am ((by rw [hg]; exact Nat.ne_of_lt (pkl BK147.out) : gb147 ≠ gb150)); have NB150_147 := am ((by rw [hg]; exact Nat.ne_of_gt (pkl BK147.out) : gb150 ≠ gb147)); replace BK147 := am (pkb BK147.out hb); have NB148_150 := am ((by rw [hg]; exact Nat.ne_of_lt (pkl BK148.out) : gb148 ≠ gb150)); have NB150_148 := am ((by rw [hg]; exact Nat.ne_of_gt (pkl BK148.out) : gb150 ≠ gb148)); replace BK148 := am (pkb BK148.out hb); replace HB := am (below_step pB hb); clear hb hbox hg; have hnb31 := NB150_147.out; have hnc31 := NB147_150.out; have hnb32 := NB150_148.out; have hnc32 := NB148_150.out; have q33 := cf4 BK150.out))
         have n0_ : Aside0 (((((w30.setCell ⟨gb150, 0, none⟩ (.int .i64 ((rd_T98 l0_4 x7_2).f0))).setCell ⟨gb150, 1, none⟩ (.int .u64 ((rd_T98 l0_4 x7_2).f1))).setCell ⟨gb150, 2, none⟩ (.string ((rd_T98 l0_4 x7_2).f2))).setCell ⟨gb150, 3, none⟩ (.int .i64 ((rd_T98 l0_4 x7_2).f3))).heap[gb147]? = some (.cells #[.int .i64 a0_0, .int .i64 a0_1, .slice A0_2 l0_2.length c0_2, .slice A0_3 l0_3.length c0_3, .slice (some ad149) l0_4.length c0_4, .slice A0_5 l0_5.length c0_5] 27 (0, 0))) := ⟨by (with_reducible repeat (first | refine blk_drewN ?_ _ | refine blk_drew ?_ | refine blk_alloc ?_ _)); refine blk_far ?_ NB147_150.out _; (with_reducible repeat (first | refine blk_drewN ?_ _ | refine blk_drew ?_ | refine blk_alloc ?_ _)); refine blk_far ?_ NB147_150.out _; (with_reducible repeat (first | refine blk_drewN ?_ _ | refine blk_drew ?_ | refine blk_alloc ?_ _)); refine blk_far ?_ NB147_150.out _; (with_reducible repeat (first | refine blk_drewN ?_ _ | refine blk_drew ?_ | refine blk_alloc ?_ _)); refine blk_far ?_ NB147_150.out _; (with_reducible repeat (first | refine blk_drewN ?_ _ | refine blk_drew ?_ | refine blk_alloc ?_ _)); exact BK147.out⟩
         have n1_ : Aside0 (((((w30.setCell ⟨gb150, 0, none⟩ (.int .i64 ((rd_T98 l0_4 x7_2).f0))).setCell ⟨gb150, 1, none⟩ (.int .u64 ((rd_T98 l0_4 x7_2).f1))).setCell ⟨gb150, 2, none⟩ (.string ((rd_T98 l0_4 x7_2).f2))).setCell ⟨gb150, 3, none⟩ (.int .i64 ((rd_T98 l0_4 x7_2).f3))).heap[gb148]? = some (.cells #[.int .i64 a1_0, .int .i64 a1_1, .slice A1_2 l1_2.length c1_2, .slice A1_3 l1_3.length c1_3, .slice A1_4 l1_4.length c1_4, .slice A1_5 l1_5.length c1_5] 27 (0, 0))) := ⟨by (with_reducible repeat (first | refine blk_drewN ?_ _ | refine blk_drew ?_ | refine blk_alloc ?_ _)); refine blk_far ?_ NB148_150.out _; (with_reducible repeat (first | refine blk_drewN ?_ _ | refine blk_drew ?_ | refine blk_alloc ?_ _)); refine blk_far ?_ NB148_150.out _; (with_reducible repeat (first | refine blk_drewN ?_ _ | refine blk_drew ?_ | refine blk_alloc ?_ _)); refine blk_far ?_ NB148_150.out _; (with_reducible repeat (first | refine blk_drewN ?_ _ | refine blk_drew ?_ | refine blk_alloc ?_ _)); refine blk_far ?_ NB148_150.out _; (with_reducible repeat (first | refine blk_drewN ?_ _ | refine blk_drew ?_ | refine blk_alloc ?_ _)); exact BK148.out⟩
         have n2_ : Aside0 (((((w30.setCell ⟨gb150, 0, none⟩ (.int .i64 ((rd_T98 l0_4 x7_2).f0))).setCell ⟨gb150, 1, none⟩ (.int .u64 ((rd_T98 l0_4 x7_2).f1))).setCell ⟨gb150, 2, none⟩ (.string ((rd_T98 l0_4 x7_2).f2))).setCell ⟨gb150, 3, none⟩ (.int .i64 ((rd_T98 l0_4 x7_2).f3))).heap[gb150]? = some (.cells #[.int .i64 ((rd_T98 l0_4 x7_2).f0), .int .u64 ((rd_T98 l0_4 x7_2).f1), .string ((rd_T98 l0_4 x7_2).f2), .int .i64 ((rd_T98 l0_4 x7_2).f3)] 98 (0, 0))) := ⟨by (with_reducible repeat (first | refine blk_drewN ?_ _ | refine blk_drew ?_ | refine blk_alloc ?_ _)); refine blk_put (cs := #[.int .i64 ((rd_T98 l0_4 x7_2).f0), .int .u64 ((rd_T98 l0_4 x7_2).f1), .string ((rd_T98 l0_4 x7_2).f2), .int .i64 0]) ?_ 3 _ rfl; (with_reducible repeat (first | refine blk_drewN ?_ _ | refine blk_drew ?_ | refine blk_alloc ?_ _)); refine blk_put (cs := #[.int .i64 ((rd_T98 l0_4 x7_2).f0), .int .u64 ((rd_T98 l0_4 x7_2).f1), .string (⟨#[]⟩ : ByteArray), .int .i64 0]) ?_ 2 _ rfl; (with_reducible repeat (first | refine blk_drewN ?_ _ | refine blk_drew ?_ | refine blk_alloc ?_ _)); refine blk_put (cs := #[.int .i64 ((rd_T98 l0_4 x7_2).f0), .int .u64 0, .string (⟨#[]⟩ : ByteArray), .int .i64 0]) ?_ 1 _ rfl; (with_reducible repeat (first | refine blk_drewN ?_ _ | refine blk_drew ?_ | refine blk_alloc ?_ _)); refine blk_put (cs := #[.int .i64 0, .int .u64 0, .string (⟨#[]⟩ : ByteArray), .int .i64 0]) ?_ 0 _ rfl; (with_reducible repeat (first | refine blk_drewN ?_ _ | refine blk_drew ?_ | refine blk_alloc ?_ _)); exact BK150.out⟩
         have n3_ : Aside0 (Below w.heap.size w ((((w30.setCell ⟨gb150, 0, none⟩ (.int .i64 ((rd_T98 l0_4 x7_2).f0))).setCell ⟨gb150, 1, none⟩ (.int .u64 ((rd_T98 l0_4 x7_2).f1))).setCell ⟨gb150, 2, none⟩ (.string ((rd_T98 l0_4 x7_2).f2))).setCell ⟨gb150, 3, none⟩ (.int .i64 ((rd_T98 l0_4 x7_2).f3)))) := ⟨pB⟩
         (try clear BK147); (try clear BK148); (try clear BK150); (try clear HB)
         generalize ((((w30.setCell ⟨gb150, 0, none⟩ (.int .i64 ((rd_T98 l0_4 x7_2).f0))).setCell ⟨gb150, 1, none⟩ (.int .u64 ((rd_T98 l0_4 x7_2).f1))).setCell ⟨gb150, 2, none⟩ (.string ((rd_T98 l0_4 x7_2).f2))).setCell ⟨gb150, 3, none⟩ (.int .i64 ((rd_T98 l0_4 x7_2).f3))) = w34 at n0_ n1_ n2_ n3_ ⊢
         have BK147 := n0_; have BK148 := n1_; have BK150 := n2_; have HB := n3_; clear n0_ n1_ n2_ n3_
         replace BK147 := am (blk_drew BK147.out)
         replace BK148 := am (blk_drew BK148.out)
         replace BK150 := am (blk_drew BK150.out)
         replace HB := am (below_drew1 HB.out)
         refine start_ (n := 14) (S := fun w' => w'.cell? ⟨gb150, 0, none⟩ = some (.int .i64 ((rd_T98 l0_4 x7_2).f0)) ∧ w'.cell? ⟨gb150, 1, none⟩ = some (.int .u64 ((rd_T98 l0_4 x7_2).f1)) ∧ w'.cell? ⟨gb150, 2, none⟩ = some (.string ((rd_T98 l0_4 x7_2).f2)) ∧ w'.cell? ⟨gb150, 3, none⟩ = some (.int .i64 ((rd_T98 l0_4 x7_2).f3))) (ds := []) (bm 14 0) (by kernel_rfl) rfl rfl ⟨cz0 BK150.out, cz1 BK150.out, cz2 BK150.out, cz3 BK150.out⟩ (fun hHeld => ?_); refine with_tabW minstrelref13_alone.tab7 minstrelref13_alone.bits7 (fun HT_ HW_ => ?_)
         generalize w34.drew = w35 at BK147 BK148 BK150 HB hHeld ⊢
         refine pure_ (i := 0) (N := some 56) (v := ?_) (a' := ?_) (bm 14 1) rfl rfl (any_of HT_.out (by kernel_rfl)) (fun _ _ _ h => h) (Or.inl ⟨by kernel_rfl, ?_⟩) ?_ ?_
         rotate_left
         ·intro w'
          go_simp
          with_reducible rfl
         rotate_left
         ·exact pA
         refine take_ (i := 1) (N := some 57) (v := ?_) (a' := ?_) (bm 14 3) rfl rfl (take_ofW HT_.out HW_.out (by kernel_rfl)) (fun _ _ _ h => h) (Or.inl ⟨by kernel_rfl, ?_⟩) hHeld ?_ ?_
         rotate_left
         ·rintro w' ⟨s0, s1, s2, s3⟩
          go_simp
          with_reducible rfl
         rotate_left
         ·exact pA
         refine pure_ (i := 2) (N := some 58) (v := ?_) (a' := ?_) (bm 14 7) rfl rfl (any_of HT_.out (by kernel_rfl)) (fun _ _ _ h => h) (Or.inl ⟨by kernel_rfl, ?_⟩) ?_ ?_
         rotate_left
         ·intro w'
          go_simp
          with_reducible rfl
         rotate_left
         ·exact pA
         refine pure_ (i := 3) (N := some 59) (v := ?_) (a' := ?_) (bm 14 15) rfl rfl (any_of HT_.out (by kernel_rfl)) (fun _ _ _ h => h) (Or.inl ⟨by kernel_rfl, ?_⟩) ?_ ?_
         rotate_left
         ·intro w'
          go_simp
          with_reducible rfl
         rotate_left
         ·exact pA
         refine pure_ (i := 4) (N := some 60) (v := undef) (a' := ?_) (bm 14 31) rfl rfl (any_of HT_.out (by kernel_rfl)) (fun _ _ _ h => h) (Or.inr ⟨by rfl, rfl⟩) ?_ ?_
         rotate_left
         ·exact pA
         refine pure_ (i := 5) (N := some 61) (v := undef) (a' := ?_) (bm 14 63) rfl rfl (any_of HT_.out (by kernel_rfl)) (fun _ _ _ h => h) (Or.inr ⟨by rfl, rfl⟩) ?_ ?_
         rotate_left
         ·exact pA
         refine pure_ (i := 6) (N := some 62) (v := undef) (a' := ?_) (bm 14 127) rfl rfl (any_of HT_.out (by kernel_rfl)) (fun _ _ _ h => h) (Or.inr ⟨by rfl, rfl⟩) ?_ ?_
         rotate_left
         ·exact pA
         refine pure_ (i := 7) (N := some 63) (v := ?_) (a' := ?_) (bm 14 255) rfl rfl (any_of HT_.out (by kernel_rfl)) (fun _ _ _ h => h) (Or.inl ⟨by kernel_rfl, ?_⟩) ?_ ?_
         rotate_left
         ·intro w'
          go_simp
          with_reducible rfl
         rotate_left
         ·exact pA
         refine pure_ (i := 8) (N := some 64) (v := ?_) (a' := ?_) (bm 14 511) rfl rfl (any_of HT_.out (by kernel_rfl)) (fun _ _ _ h => h) (Or.inl ⟨by kernel_rfl, ?_⟩) ?_ ?_
         rotate_left
         ·intro w'
          go_simp
          with_reducible rfl
         rotate_left
         ·exact pA
         refine pure_ (i := 9) (N := some 65) (v := undef) (a' := ?_) (bm 14 1023) rfl rfl (any_of HT_.out (by kernel_rfl)) (fun _ _ _ h => h) (Or.inr ⟨by rfl, rfl⟩) ?_ ?_
         rotate_left
         ·exact pA
         refine pure_ (i := 10) (N := some 66) (v := undef) (a' := ?_) (bm 14 2047) rfl rfl (any_of HT_.out (by kernel_rfl)) (fun _ _ _ h => h) (Or.inr ⟨by rfl, rfl⟩) ?_ ?_
         rotate_left
         ·exact pA
         refine pure_ (i := 11) (N := some 67) (v := undef) (a' := ?_) (bm 14 4095) rfl rfl (any_of HT_.out (by kernel_rfl)) (fun _ _ _ h => h) (Or.inr ⟨by rfl, rfl⟩) ?_ ?_
         rotate_left
         ·exact pA
         refine pure_ (i := 12) (N := some 68) (v := undef) (a' := ?_) (bm 14 8191) rfl rfl (any_of HT_.out (by kernel_rfl)) (fun _ _ _ h => h) (Or.inr ⟨by rfl, rfl⟩) ?_ ?_
         rotate_left
         ·exact pA
         refine pure_ (i := 13) (N := some 69) (v := ?_) (a' := ?_) (bm 14 16383) rfl rfl (any_of HT_.out (by kernel_rfl)) (fun _ _ _ h => h) (Or.inl ⟨by kernel_rfl, ?_⟩) ?_ ?_
         rotate_left
         ·intro w'
          go_simp
          with_reducible rfl
         rotate_left
         ·exact pA
         refine done_ (done_of HT_.out (by kernel_rfl)) ?_
         try go_wp2
         go_ret
         exact ⟨pE, pB⟩
        ·rw [if_neg c27] at H
         have c27b0 : decide (((rd_T98 l0_4 x7_2).f0) < 0) = false := decide_eq_false c27
         clear c27
         by_cases c36 : ((rd_T98 l0_4 x7_2).f0) > 4
         ·rw [if_pos c36] at H
          have c36b0 : decide (4 < ((rd_T98 l0_4 x7_2).f0)) = true := decide_eq_true c36
          clear c36
          obtain rfl := Option.some.inj H
          have hnb37 := NB147_148.out
          have hnc37 := NB148_147.out
          have q38 := cf6 BK147.out
          have p149 : 0 ≤ (x7_2 : Int) := pD
          have q149 : x7_2 < (l0_4.length : Int) := pD
          obtain ⟨ad149, e149, hx149_0, hx149_1, hx149_2, hx149_3⟩ := at_T98 HR0_4.out x7_2 p149 q149
          cases e149
          replace hx149_0 := (HB.out.cell (World.block_lt_of_cell? w _ hx149_0)).trans hx149_0
          replace hx149_1 := (HB.out.cell (World.block_lt_of_cell? w _ hx149_1)).trans hx149_1
          replace hx149_2 := (HB.out.cell (World.block_lt_of_cell? w _ hx149_2)).trans hx149_2
          replace hx149_3 := (HB.out.cell (World.block_lt_of_cell? w _ hx149_3)).trans hx149_3
          replace p149 := eq_true p149
          replace q149 := eq_true q149
          try go_wp2_with (first | ((with_reducible refine gate_dst (N := 8) rfl ?_); (try (refine gate_guard (by rfl) ?_; dsimp only)); refine box_event ?hg (N := 8) ?hd (cs := #[.int .i64 0, .int .u64 0, .string (⟨#[]⟩ : ByteArray), .int .i64 0]) (t := 98) ?hr ?_; (case hd => rfl); (case hg => rfl); (case hr => first | (go_simp; done) | (go_simp; rfl)); intro gb150 hg w39 hbox hb; have BK150 := am (hbox); have GW150 := am ((by rw [hg]; exact (below_size pB) : w.heap.size ≤ gb150)); have GE150 := am ((by rw [hg]; exact (below_size pB) : w.heap.size ≤ gb150)); have NB147_150 := am ((by rw [hg]; exact Nat.ne_of_lt (pkl BK147.out) : gb147 ≠ gb150)); have NB150_147 := am ((by rw [hg]; exact Nat.ne_of_gt (pkl BK147.out) : gb150 ≠ gb147)); replace BK147 := am (pkb BK147.out hb); have NB148_150 := am ((by rw [hg]; exact Nat.ne_of_lt (pkl BK148.out) : gb148 ≠ gb150)); have NB150_148 := am ((by rw [hg]; exact Nat.ne_of_gt (pkl BK148.out) : gb150 ≠ gb148)); replace BK148 := am (pkb BK148.out hb); replace HB := am (below_step pB hb); clear hb hbox hg; have hnb40 := NB150_147.out; have hnc40 := NB147_150.out; have hnb41 := NB150_148.out; have hnc41 := NB148_150.out; have q42 := cf4 BK150.out))
          have n0_ : Aside0 (((((w39.setCell ⟨gb150, 0, none⟩ (.int .i64 ((rd_T98 l0_4 x7_2).f0))).setCell ⟨gb150, 1, none⟩ (.int .u64 ((rd_T98 l0_4 x7_2).f1))).setCell ⟨gb150, 2, none⟩ (.string ((rd_T98 l0_4 x7_2).f2))).setCell ⟨gb150, 3, none⟩ (.int .i64 ((rd_T98 l0_4 x7_2).f3))).heap[gb147]? = some (.cells #[.int .i64 a0_0, .int .i64 a0_1, .slice A0_2 l0_2.length c0_2, .slice A0_3 l0_3.length c0_3, .slice (some ad149) l0_4.length c0_4, .slice A0_5 l0_5.length c0_5] 27 (0, 0))) := ⟨by (with_reducible repeat (first | refine blk_drewN ?_ _ | refine blk_drew ?_ | refine blk_alloc ?_ _)); refine blk_far ?_ NB147_150.out _; (with_reducible repeat (first | refine blk_drewN ?_ _ | refine blk_drew ?_ | refine blk_alloc ?_ _)); refine blk_far ?_ NB147_150.out _; (with_reducible repeat (first | refine blk_drewN ?_ _ | refine blk_drew ?_ | refine blk_alloc ?_ _)); refine blk_far ?_ NB147_150.out _; (with_reducible repeat (first | refine blk_drewN ?_ _ | refine blk_drew ?_ | refine blk_alloc ?_ _)); refine blk_far ?_ NB147_150.out _; (with_reducible repeat (first | refine blk_drewN ?_ _ | refine blk_drew ?_ | refine blk_alloc ?_ _)); exact BK147.out⟩
          have n1_ : Aside0 (((((w39.setCell ⟨gb150, 0, none⟩ (.int .i64 ((rd_T98 l0_4 x7_2).f0))).setCell ⟨gb150, 1, none⟩ (.int .u64 ((rd_T98 l0_4 x7_2).f1))).setCell ⟨gb150, 2, none⟩ (.string ((rd_T98 l0_4 x7_2).f2))).setCell ⟨gb150, 3, none⟩ (.int .i64 ((rd_T98 l0_4 x7_2).f3))).heap[gb148]? = some (.cells #[.int .i64 a1_0, .int .i64 a1_1, .slice A1_2 l1_2.length c1_2, .slice A1_3 l1_3.length c1_3, .slice A1_4 l1_4.length c1_4, .slice A1_5 l1_5.length c1_5] 27 (0, 0))) := ⟨by (with_reducible repeat (first | refine blk_drewN ?_ _ | refine blk_drew ?_ | refine blk_alloc ?_ _)); refine blk_far ?_ NB148_150.out _; (with_reducible repeat (first | refine blk_drewN ?_ _ | refine blk_drew ?_ | refine blk_alloc ?_ _)); refine blk_far ?_ NB148_150.out _; (with_reducible repeat (first | refine blk_drewN ?_ _ | refine blk_drew ?_ | refine blk_alloc ?_ _)); refine blk_far ?_ NB148_150.out _; (with_reducible repeat (first | refine blk_drewN ?_ _ | refine blk_drew ?_ | refine blk_alloc ?_ _)); refine blk_far ?_ NB148_150.out _; (with_reducible repeat (first | refine blk_drewN ?_ _ | refine blk_drew ?_ | refine blk_alloc ?_ _)); exact BK148.out⟩
          have n2_ : Aside0 (((((w39.setCell ⟨gb150, 0, none⟩ (.int .i64 ((rd_T98 l0_4 x7_2).f0))).setCell ⟨gb150, 1, none⟩ (.int .u64 ((rd_T98 l0_4 x7_2).f1))).setCell ⟨gb150, 2, none⟩ (.string ((rd_T98 l0_4 x7_2).f2))).setCell ⟨gb150, 3, none⟩ (.int .i64 ((rd_T98 l0_4 x7_2).f3))).heap[gb150]? = some (.cells #[.int .i64 ((rd_T98 l0_4 x7_2).f0), .int .u64 ((rd_T98 l0_4 x7_2).f1), .string ((rd_T98 l0_4 x7_2).f2), .int .i64 ((rd_T98 l0_4 x7_2).f3)] 98 (0, 0))) := ⟨by (with_reducible repeat (first | refine blk_drewN ?_ _ | refine blk_drew ?_ | refine blk_alloc ?_ _)); refine blk_put (cs := #[.int .i64 ((rd_T98 l0_4 x7_2).f0), .int .u64 ((rd_T98 l0_4 x7_2).f1), .string ((rd_T98 l0_4 x7_2).f2), .int .i64 0]) ?_ 3 _ rfl; (with_reducible repeat (first | refine blk_drewN ?_ _ | refine blk_drew ?_ | refine blk_alloc ?_ _)); refine blk_put (cs := #[.int .i64 ((rd_T98 l0_4 x7_2).f0), .int .u64 ((rd_T98 l0_4 x7_2).f1), .string (⟨#[]⟩ : ByteArray), .int .i64 0]) ?_ 2 _ rfl; (with_reducible repeat (first | refine blk_drewN ?_ _ | refine blk_drew ?_ | refine blk_alloc ?_ _)); refine blk_put (cs := #[.int .i64 ((rd_T98 l0_4 x7_2).f0), .int .u64 0, .string (⟨#[]⟩ : ByteArray), .int .i64 0]) ?_ 1 _ rfl; (with_reducible repeat (first | refine blk_drewN ?_ _ | refine blk_drew ?_ | refine blk_alloc ?_ _)); refine blk_put (cs := #[.int .i64 0, .int .u64 0, .string (⟨#[]⟩ : ByteArray), .int .i64 0]) ?_ 0 _ rfl; (with_reducible repeat (first | refine blk_drewN ?_ _ | refine blk_drew ?_ | refine blk_alloc ?_ _)); exact BK150.out⟩
          have n3_ : Aside0 (Below w.heap.size w ((((w39.setCell ⟨gb150, 0, none⟩ (.int .i64 ((rd_T98 l0_4 x7_2).f0))).setCell ⟨gb150, 1, none⟩ (.int .u64 ((rd_T98 l0_4 x7_2).f1))).setCell ⟨gb150, 2, none⟩ (.string ((rd_T98 l0_4 x7_2).f2))).setCell ⟨gb150, 3, none⟩ (.int .i64 ((rd_T98 l0_4 x7_2).f3)))) := ⟨pB⟩
          (try clear BK147); (try clear BK148); (try clear BK150); (try clear HB)
          generalize ((((w39.setCell ⟨gb150, 0, none⟩ (.int .i64 ((rd_T98 l0_4 x7_2).f0))).setCell ⟨gb150, 1, none⟩ (.int .u64 ((rd_T98 l0_4 x7_2).f1))).setCell ⟨gb150, 2, none⟩ (.string ((rd_T98 l0_4 x7_2).f2))).setCell ⟨gb150, 3, none⟩ (.int .i64 ((rd_T98 l0_4 x7_2).f3))) = w43 at n0_ n1_ n2_ n3_ ⊢
          have BK147 := n0_; have BK148 := n1_; have BK150 := n2_; have HB := n3_; clear n0_ n1_ n2_ n3_
          replace BK147 := am (blk_drew BK147.out)
          replace BK148 := am (blk_drew BK148.out)
          replace BK150 := am (blk_drew BK150.out)
          replace HB := am (below_drew1 HB.out)
          refine start_ (n := 14) (S := fun w' => w'.cell? ⟨gb150, 0, none⟩ = some (.int .i64 ((rd_T98 l0_4 x7_2).f0)) ∧ w'.cell? ⟨gb150, 1, none⟩ = some (.int .u64 ((rd_T98 l0_4 x7_2).f1)) ∧ w'.cell? ⟨gb150, 2, none⟩ = some (.string ((rd_T98 l0_4 x7_2).f2)) ∧ w'.cell? ⟨gb150, 3, none⟩ = some (.int .i64 ((rd_T98 l0_4 x7_2).f3))) (ds := []) (bm 14 0) (by kernel_rfl) rfl rfl ⟨cz0 BK150.out, cz1 BK150.out, cz2 BK150.out, cz3 BK150.out⟩ (fun hHeld => ?_); refine with_tabW minstrelref13_alone.tab7 minstrelref13_alone.bits7 (fun HT_ HW_ => ?_)
          generalize w43.drew = w44 at BK147 BK148 BK150 HB hHeld ⊢
          refine pure_ (i := 0) (N := some 56) (v := ?_) (a' := ?_) (bm 14 1) rfl rfl (any_of HT_.out (by kernel_rfl)) (fun _ _ _ h => h) (Or.inl ⟨by kernel_rfl, ?_⟩) ?_ ?_
          rotate_left
          ·intro w'
           go_simp
           with_reducible rfl
          rotate_left
          ·exact pA
          refine take_ (i := 1) (N := some 57) (v := ?_) (a' := ?_) (bm 14 3) rfl rfl (take_ofW HT_.out HW_.out (by kernel_rfl)) (fun _ _ _ h => h) (Or.inl ⟨by kernel_rfl, ?_⟩) hHeld ?_ ?_
          rotate_left
          ·rintro w' ⟨s0, s1, s2, s3⟩
           go_simp
           with_reducible rfl
          rotate_left
          ·exact pA
          refine pure_ (i := 2) (N := some 58) (v := ?_) (a' := ?_) (bm 14 7) rfl rfl (any_of HT_.out (by kernel_rfl)) (fun _ _ _ h => h) (Or.inl ⟨by kernel_rfl, ?_⟩) ?_ ?_
          rotate_left
          ·intro w'
           go_simp
           with_reducible rfl
          rotate_left
          ·exact pA
          refine pure_ (i := 3) (N := some 59) (v := ?_) (a' := ?_) (bm 14 15) rfl rfl (any_of HT_.out (by kernel_rfl)) (fun _ _ _ h => h) (Or.inl ⟨by kernel_rfl, ?_⟩) ?_ ?_
          rotate_left
          ·intro w'
           go_simp
           with_reducible rfl
          rotate_left
          ·exact pA
          refine pure_ (i := 4) (N := some 60) (v := ?_) (a' := ?_) (bm 14 31) rfl rfl (any_of HT_.out (by kernel_rfl)) (fun _ _ _ h => h) (Or.inl ⟨by kernel_rfl, ?_⟩) ?_ ?_
          rotate_left
          ·intro w'
           go_simp
           with_reducible rfl
          rotate_left
          ·exact pA
          refine take_ (i := 5) (N := some 61) (v := ?_) (a' := ?_) (bm 14 63) rfl rfl (take_ofW HT_.out HW_.out (by kernel_rfl)) (fun _ _ _ h => h) (Or.inl ⟨by kernel_rfl, ?_⟩) hHeld ?_ ?_
          rotate_left
          ·rintro w' ⟨s0, s1, s2, s3⟩
           go_simp
           with_reducible rfl
          rotate_left
          ·exact pA
          refine pure_ (i := 6) (N := some 62) (v := ?_) (a' := ?_) (bm 14 127) rfl rfl (any_of HT_.out (by kernel_rfl)) (fun _ _ _ h => h) (Or.inl ⟨by kernel_rfl, ?_⟩) ?_ ?_
          rotate_left
          ·intro w'
           go_simp
           with_reducible rfl
          rotate_left
          ·exact pA
          refine pure_ (i := 7) (N := some 63) (v := ?_) (a' := ?_) (bm 14 255) rfl rfl (any_of HT_.out (by kernel_rfl)) (fun _ _ _ h => h) (Or.inl ⟨by kernel_rfl, ?_⟩) ?_ ?_
          rotate_left
          ·intro w'
           go_simp
           with_reducible rfl
          rotate_left
          ·exact pA
          refine pure_ (i := 8) (N := some 64) (v := ?_) (a' := ?_) (bm 14 511) rfl rfl (any_of HT_.out (by kernel_rfl)) (fun _ _ _ h => h) (Or.inl ⟨by kernel_rfl, ?_⟩) ?_ ?_
          rotate_left
          ·intro w'
           go_simp
           with_reducible rfl
          rotate_left
          ·exact pA
          refine pure_ (i := 9) (N := some 65) (v := undef) (a' := ?_) (bm 14 1023) rfl rfl (any_of HT_.out (by kernel_rfl)) (fun _ _ _ h => h) (Or.inr ⟨by rfl, rfl⟩) ?_ ?_
          rotate_left
          ·exact pA
          refine pure_ (i := 10) (N := some 66) (v := undef) (a' := ?_) (bm 14 2047) rfl rfl (any_of HT_.out (by kernel_rfl)) (fun _ _ _ h => h) (Or.inr ⟨by rfl, rfl⟩) ?_ ?_
          rotate_left
          ·exact pA
          refine pure_ (i := 11) (N := some 67) (v := undef) (a' := ?_) (bm 14 4095) rfl rfl (any_of HT_.out (by kernel_rfl)) (fun _ _ _ h => h) (Or.inr ⟨by rfl, rfl⟩) ?_ ?_
          rotate_left
          ·exact pA
          refine pure_ (i := 12) (N := some 68) (v := undef) (a' := ?_) (bm 14 8191) rfl rfl (any_of HT_.out (by kernel_rfl)) (fun _ _ _ h => h) (Or.inr ⟨by rfl, rfl⟩) ?_ ?_
          rotate_left
          ·exact pA
          refine pure_ (i := 13) (N := some 69) (v := ?_) (a' := ?_) (bm 14 16383) rfl rfl (any_of HT_.out (by kernel_rfl)) (fun _ _ _ h => h) (Or.inl ⟨by kernel_rfl, ?_⟩) ?_ ?_
          rotate_left
          ·intro w'
           go_simp
           with_reducible rfl
          rotate_left
          ·exact pA
          refine done_ (done_of HT_.out (by kernel_rfl)) ?_
          try go_wp2
          go_ret
          exact ⟨pE, pB⟩
         ·rw [if_neg c36] at H
          have c36b0 : decide (4 < ((rd_T98 l0_4 x7_2).f0)) = false := decide_eq_false c36
          clear c36
          replace H := Option.bind_eq_some_iff.mp H
          obtain ⟨⟨t151, t152, t153, t154⟩, A450, H⟩ := H
          try dsimp only at H
          have A45 := am A450
          clear A450
          by_cases c46 : (!(t151 == ((rd_T98 l0_4 x7_2).f0)) || (!(t152 == ((rd_T98 l0_4 x7_2).f1)) || (!(t153.toList == (((rd_T98 l0_4 x7_2).f2).toList)) || (!(t154 == ((rd_T98 l0_4 x7_2).f3)))))) = true
          ·rw [if_pos c46] at H
           have c46b0 : (!(t151 == ((rd_T98 l0_4 x7_2).f0)) || (!(t152 == ((rd_T98 l0_4 x7_2).f1)) || (!(t153.toList == (((rd_T98 l0_4 x7_2).f2).toList)) || (!(t154 == ((rd_T98 l0_4 x7_2).f3)))))) = true := c46
           clear c46
           obtain rfl := Option.some.inj H
           have hnb47 := NB147_148.out
           have hnc47 := NB148_147.out
           have q48 := cf6 BK147.out
           have p149 : 0 ≤ (x7_2 : Int) := pD
           have q149 : x7_2 < (l0_4.length : Int) := pD
           obtain ⟨ad149, e149, hx149_0, hx149_1, hx149_2, hx149_3⟩ := at_T98 HR0_4.out x7_2 p149 q149
           cases e149
           replace hx149_0 := (HB.out.cell (World.block_lt_of_cell? w _ hx149_0)).trans hx149_0
           replace hx149_1 := (HB.out.cell (World.block_lt_of_cell? w _ hx149_1)).trans hx149_1
           replace hx149_2 := (HB.out.cell (World.block_lt_of_cell? w _ hx149_2)).trans hx149_2
           replace hx149_3 := (HB.out.cell (World.block_lt_of_cell? w _ hx149_3)).trans hx149_3
           replace p149 := eq_true p149
           replace q149 := eq_true q149
           try go_wp2_with (first | ((with_reducible refine gate_dst (N := 8) rfl ?_); (try (refine gate_guard (by rfl) ?_; dsimp only)); refine box_event ?hg (N := 8) ?hd (cs := #[.int .i64 0, .int .u64 0, .string (⟨#[]⟩ : ByteArray), .int .i64 0]) (t := 98) ?hr ?_; (case hd => rfl); (case hg => rfl); (case hr => first | (go_simp; done) | (go_simp; rfl)); intro gb150 hg w49 hbox hb; have BK150 := am (hbox); have GW150 := am ((by rw [hg]; exact (below_size pB) : w.heap.size ≤ gb150)); have GE150 := am ((by rw [hg]; exact (below_size pB) : w.heap.size ≤ gb150)); have NB147_150 := am ((by rw [hg]; exact Nat.ne_of_lt (pkl BK147.out) : gb147 ≠ gb150)); have NB150_147 := am ((by rw [hg]; exact Nat.ne_of_gt (pkl BK147.out) : gb150 ≠ gb147)); replace BK147 := am (pkb BK147.out hb); have NB148_150 := am ((by rw [hg]; exact Nat.ne_of_lt (pkl BK148.out) : gb148 ≠ gb150)); have NB150_148 := am ((by rw [hg]; exact Nat.ne_of_gt (pkl BK148.out) : gb150 ≠ gb148)); replace BK148 := am (pkb BK148.out hb); replace HB := am (below_step pB hb); clear hb hbox hg; have hnb50 := NB150_147.out; have hnc50 := NB147_150.out; have hnb51 := NB150_148.out; have hnc51 := NB148_150.out; have q52 := cf4 BK150.out))
           have n0_ : Aside0 (((((w49.setCell ⟨gb150, 0, none⟩ (.int .i64 ((rd_T98 l0_4 x7_2).f0))).setCell ⟨gb150, 1, none⟩ (.int .u64 ((rd_T98 l0_4 x7_2).f1))).setCell ⟨gb150, 2, none⟩ (.string ((rd_T98 l0_4 x7_2).f2))).setCell ⟨gb150, 3, none⟩ (.int .i64 ((rd_T98 l0_4 x7_2).f3))).heap[gb147]? = some (.cells #[.int .i64 a0_0, .int .i64 a0_1, .slice A0_2 l0_2.length c0_2, .slice A0_3 l0_3.length c0_3, .slice (some ad149) l0_4.length c0_4, .slice A0_5 l0_5.length c0_5] 27 (0, 0))) := ⟨by (with_reducible repeat (first | refine blk_drewN ?_ _ | refine blk_drew ?_ | refine blk_alloc ?_ _)); refine blk_far ?_ NB147_150.out _; (with_reducible repeat (first | refine blk_drewN ?_ _ | refine blk_drew ?_ | refine blk_alloc ?_ _)); refine blk_far ?_ NB147_150.out _; (with_reducible repeat (first | refine blk_drewN ?_ _ | refine blk_drew ?_ | refine blk_alloc ?_ _)); refine blk_far ?_ NB147_150.out _; (with_reducible repeat (first | refine blk_drewN ?_ _ | refine blk_drew ?_ | refine blk_alloc ?_ _)); refine blk_far ?_ NB147_150.out _; (with_reducible repeat (first | refine blk_drewN ?_ _ | refine blk_drew ?_ | refine blk_alloc ?_ _)); exact BK147.out⟩
           have n1_ : Aside0 (((((w49.setCell ⟨gb150, 0, none⟩ (.int .i64 ((rd_T98 l0_4 x7_2).f0))).setCell ⟨gb150, 1, none⟩ (.int .u64 ((rd_T98 l0_4 x7_2).f1))).setCell ⟨gb150, 2, none⟩ (.string ((rd_T98 l0_4 x7_2).f2))).setCell ⟨gb150, 3, none⟩ (.int .i64 ((rd_T98 l0_4 x7_2).f3))).heap[gb148]? = some (.cells #[.int .i64 a1_0, .int .i64 a1_1, .slice A1_2 l1_2.length c1_2, .slice A1_3 l1_3.length c1_3, .slice A1_4 l1_4.length c1_4, .slice A1_5 l1_5.length c1_5] 27 (0, 0))) := ⟨by (with_reducible repeat (first | refine blk_drewN ?_ _ | refine blk_drew ?_ | refine blk_alloc ?_ _)); refine blk_far ?_ NB148_150.out _; (with_reducible repeat (first | refine blk_drewN ?_ _ | refine blk_drew ?_ | refine blk_alloc ?_ _)); refine blk_far ?_ NB148_150.out _; (with_reducible repeat (first | refine blk_drewN ?_ _ | refine blk_drew ?_ | refine blk_alloc ?_ _)); refine blk_far ?_ NB148_150.out _; (with_reducible repeat (first | refine blk_drewN ?_ _ | refine blk_drew ?_ | refine blk_alloc ?_ _)); refine blk_far ?_ NB148_150.out _; (with_reducible repeat (first | refine blk_drewN ?_ _ | refine blk_drew ?_ | refine blk_alloc ?_ _)); exact BK148.out⟩
           have n2_ : Aside0 (((((w49.setCell ⟨gb150, 0, none⟩ (.int .i64 ((rd_T98 l0_4 x7_2).f0))).setCell ⟨gb150, 1, none⟩ (.int .u64 ((rd_T98 l0_4 x7_2).f1))).setCell ⟨gb150, 2, none⟩ (.string ((rd_T98 l0_4 x7_2).f2))).setCell ⟨gb150, 3, none⟩ (.int .i64 ((rd_T98 l0_4 x7_2).f3))).heap[gb150]? = some (.cells #[.int .i64 ((rd_T98 l0_4 x7_2).f0), .int .u64 ((rd_T98 l0_4 x7_2).f1), .string ((rd_T98 l0_4 x7_2).f2), .int .i64 ((rd_T98 l0_4 x7_2).f3)] 98 (0, 0))) := ⟨by (with_reducible repeat (first | refine blk_drewN ?_ _ | refine blk_drew ?_ | refine blk_alloc ?_ _)); refine blk_put (cs := #[.int .i64 ((rd_T98 l0_4 x7_2).f0), .int .u64 ((rd_T98 l0_4 x7_2).f1), .string ((rd_T98 l0_4 x7_2).f2), .int .i64 0]) ?_ 3 _ rfl; (with_reducible repeat (first | refine blk_drewN ?_ _ | refine blk_drew ?_ | refine blk_alloc ?_ _)); refine blk_put (cs := #[.int .i64 ((rd_T98 l0_4 x7_2).f0), .int .u64 ((rd_T98 l0_4 x7_2).f1), .string (⟨#[]⟩ : ByteArray), .int .i64 0]) ?_ 2 _ rfl; (with_reducible repeat (first | refine blk_drewN ?_ _ | refine blk_drew ?_ | refine blk_alloc ?_ _)); refine blk_put (cs := #[.int .i64 ((rd_T98 l0_4 x7_2).f0), .int .u64 0, .string (⟨#[]⟩ : ByteArray), .int .i64 0]) ?_ 1 _ rfl; (with_reducible repeat (first | refine blk_drewN ?_ _ | refine blk_drew ?_ | refine blk_alloc ?_ _)); refine blk_put (cs := #[.int .i64 0, .int .u64 0, .string (⟨#[]⟩ : ByteArray), .int .i64 0]) ?_ 0 _ rfl; (with_reducible repeat (first | refine blk_drewN ?_ _ | refine blk_drew ?_ | refine blk_alloc ?_ _)); exact BK150.out⟩
           have n3_ : Aside0 (Below w.heap.size w ((((w49.setCell ⟨gb150, 0, none⟩ (.int .i64 ((rd_T98 l0_4 x7_2).f0))).setCell ⟨gb150, 1, none⟩ (.int .u64 ((rd_T98 l0_4 x7_2).f1))).setCell ⟨gb150, 2, none⟩ (.string ((rd_T98 l0_4 x7_2).f2))).setCell ⟨gb150, 3, none⟩ (.int .i64 ((rd_T98 l0_4 x7_2).f3)))) := ⟨pB⟩
           (try clear BK147); (try clear BK148); (try clear BK150); (try clear HB)
           generalize ((((w49.setCell ⟨gb150, 0, none⟩ (.int .i64 ((rd_T98 l0_4 x7_2).f0))).setCell ⟨gb150, 1, none⟩ (.int .u64 ((rd_T98 l0_4 x7_2).f1))).setCell ⟨gb150, 2, none⟩ (.string ((rd_T98 l0_4 x7_2).f2))).setCell ⟨gb150, 3, none⟩ (.int .i64 ((rd_T98 l0_4 x7_2).f3))) = w53 at n0_ n1_ n2_ n3_ ⊢
           have BK147 := n0_; have BK148 := n1_; have BK150 := n2_; have HB := n3_; clear n0_ n1_ n2_ n3_
           replace BK147 := am (blk_drew BK147.out)
           replace BK148 := am (blk_drew BK148.out)
           replace BK150 := am (blk_drew BK150.out)
           replace HB := am (below_drew1 HB.out)
           refine start_ (n := 14) (S := fun w' => w'.cell? ⟨gb150, 0, none⟩ = some (.int .i64 ((rd_T98 l0_4 x7_2).f0)) ∧ w'.cell? ⟨gb150, 1, none⟩ = some (.int .u64 ((rd_T98 l0_4 x7_2).f1)) ∧ w'.cell? ⟨gb150, 2, none⟩ = some (.string ((rd_T98 l0_4 x7_2).f2)) ∧ w'.cell? ⟨gb150, 3, none⟩ = some (.int .i64 ((rd_T98 l0_4 x7_2).f3))) (ds := []) (bm 14 0) (by kernel_rfl) rfl rfl ⟨cz0 BK150.out, cz1 BK150.out, cz2 BK150.out, cz3 BK150.out⟩ (fun hHeld => ?_); refine with_tabW minstrelref13_alone.tab7 minstrelref13_alone.bits7 (fun HT_ HW_ => ?_)
           generalize w53.drew = w54 at BK147 BK148 BK150 HB hHeld ⊢
           refine pure_ (i := 0) (N := some 56) (v := ?_) (a' := ?_) (bm 14 1) rfl rfl (any_of HT_.out (by kernel_rfl)) (fun _ _ _ h => h) (Or.inl ⟨by kernel_rfl, ?_⟩) ?_ ?_
           rotate_left
           ·intro w'
            go_simp
            with_reducible rfl
           rotate_left
           ·exact pA
           refine take_ (i := 1) (N := some 57) (v := ?_) (a' := ?_) (bm 14 3) rfl rfl (take_ofW HT_.out HW_.out (by kernel_rfl)) (fun _ _ _ h => h) (Or.inl ⟨by kernel_rfl, ?_⟩) hHeld ?_ ?_
           rotate_left
           ·rintro w' ⟨s0, s1, s2, s3⟩
            go_simp
            with_reducible rfl
           rotate_left
           ·exact pA
           refine pure_ (i := 2) (N := some 58) (v := ?_) (a' := ?_) (bm 14 7) rfl rfl (any_of HT_.out (by kernel_rfl)) (fun _ _ _ h => h) (Or.inl ⟨by kernel_rfl, ?_⟩) ?_ ?_
           rotate_left
           ·intro w'
            go_simp
            with_reducible rfl
           rotate_left
           ·exact pA
           refine pure_ (i := 3) (N := some 59) (v := ?_) (a' := ?_) (bm 14 15) rfl rfl (any_of HT_.out (by kernel_rfl)) (fun _ _ _ h => h) (Or.inl ⟨by kernel_rfl, ?_⟩) ?_ ?_
           rotate_left
           ·intro w'
            go_simp
            with_reducible rfl
           rotate_left
           ·exact pA
           refine pure_ (i := 4) (N := some 60) (v := ?_) (a' := ?_) (bm 14 31) rfl rfl (any_of HT_.out (by kernel_rfl)) (fun _ _ _ h => h) (Or.inl ⟨by kernel_rfl, ?_⟩) ?_ ?_
           rotate_left
           ·intro w'
            go_simp
            with_reducible rfl
           rotate_left
           ·exact pA
           refine take_ (i := 5) (N := some 61) (v := ?_) (a' := ?_) (bm 14 63) rfl rfl (take_ofW HT_.out HW_.out (by kernel_rfl)) (fun _ _ _ h => h) (Or.inl ⟨by kernel_rfl, ?_⟩) hHeld ?_ ?_
           rotate_left
           ·rintro w' ⟨s0, s1, s2, s3⟩
            go_simp
            with_reducible rfl
           rotate_left
           ·exact pA
           refine pure_ (i := 6) (N := some 62) (v := ?_) (a' := ?_) (bm 14 127) rfl rfl (any_of HT_.out (by kernel_rfl)) (fun _ _ _ h => h) (Or.inl ⟨by kernel_rfl, ?_⟩) ?_ ?_
           rotate_left
           ·intro w'
            go_simp
            with_reducible rfl
           rotate_left
           ·exact pA
           refine pure_ (i := 7) (N := some 63) (v := ?_) (a' := ?_) (bm 14 255) rfl rfl (any_of HT_.out (by kernel_rfl)) (fun _ _ _ h => h) (Or.inl ⟨by kernel_rfl, ?_⟩) ?_ ?_
           rotate_left
           ·intro w'
            go_simp
            with_reducible rfl
           rotate_left
           ·exact pA
           refine pure_ (i := 8) (N := some 64) (v := ?_) (a' := ?_) (bm 14 511) rfl rfl (any_of HT_.out (by kernel_rfl)) (fun _ _ _ h => h) (Or.inl ⟨by kernel_rfl, ?_⟩) ?_ ?_
           rotate_left
           ·intro w'
            go_simp
            with_reducible rfl
           rotate_left
           ·exact pA
           refine take_ (i := 9) (N := some 65) (v := ?_) (a' := ?_) (bm 14 1023) rfl rfl (take_ofW HT_.out HW_.out (by kernel_rfl)) (fun _ _ _ h => h) (Or.inl ⟨by kernel_rfl, ?_⟩) hHeld ?_ ?_
           rotate_left
           ·rintro w' ⟨s0, s1, s2, s3⟩
            go_simp
            with_reducible rfl
           rotate_left
           ·exact pA
           refine take_ (i := 11) (N := some 67) (v := ?_) (a' := ?_) (bm 14 3071) rfl rfl (take_ofW HT_.out HW_.out (by kernel_rfl)) (fun _ _ _ h => h) (Or.inl ⟨by kernel_rfl, ?_⟩) hHeld ?_ ?_
           rotate_left
           ·rintro w' ⟨s0, s1, s2, s3⟩
            go_simp
            with_reducible rfl
           rotate_left
           ·exact pA
           refine one_ (i := 10) (N := some 66) (bm 14 4095) rfl rfl (one_of HT_.out (by kernel_rfl)) (by decide) (fun K hK => ?_)
           refine goes_ Tryd.func69 (by kernel_rfl) rfl #[.agg #[.int .i64 ((rd_T98 l0_4 x7_2).f0), .int .u64 ((rd_T98 l0_4 x7_2).f1), .string ((rd_T98 l0_4 x7_2).f2), .int .i64 ((rd_T98 l0_4 x7_2).f3)]] (by rfl) rfl rfl pM ?_
           with_reducible refine (minstrelref08_Normal.calls k2 ((rd_T98 l0_4 x7_2).f0) ((rd_T98 l0_4 x7_2).f1) ((rd_T98 l0_4 x7_2).f2) ((rd_T98 l0_4 x7_2).f3) t151 t152 t153 t154 _ A45.out).mono ?_
           rintro e w55 ⟨rfl, hb⟩
           refine ⟨_, rfl, ?_⟩
           have n0_ := am (pkb BK147.out hb)
           have n1_ := am (pkb BK148.out hb)
           have n2_ := am (pkb BK150.out hb)
           have n3_ := am (below_step pB hb)
           clear BK147 BK148 BK150 HB; have BK147 := n0_; have BK148 := n1_; have BK150 := n2_; have HB := n3_; clear n0_ n1_ n2_ n3_; (try clear hb); (try clear hb2); (try clear hk); (try clear hi)
           refine hK.out _ _ ⟨cz0 BK150.out, cz1 BK150.out, cz2 BK150.out, cz3 BK150.out⟩ (fun hHeld => ?_)
           clear hK K
           refine norm_ (a' := ?_) ?_ ?_
           rotate_left
           ·show Act.put _ (some 66) _ = _
            exact pA
           refine pure_ (i := 12) (N := some 68) (v := ?_) (a' := ?_) (bm 14 8191) rfl rfl (any_of HT_.out (by kernel_rfl)) (fun _ _ _ h => h) (Or.inl ⟨by kernel_rfl, ?_⟩) ?_ ?_
           rotate_left
           ·intro w'
            go_simp
            with_reducible rfl
           rotate_left
           ·exact pA
           refine pure_ (i := 13) (N := some 69) (v := ?_) (a' := ?_) (bm 14 16383) rfl rfl (any_of HT_.out (by kernel_rfl)) (fun _ _ _ h => h) (Or.inl ⟨by kernel_rfl, ?_⟩) ?_ ?_
           rotate_left
           ·intro w'
            go_simp
            with_reducible rfl
           rotate_left
           ·exact pA
           refine done_ (done_of HT_.out (by kernel_rfl)) ?_
           try go_wp2
           go_ret
           exact ⟨pE, pB⟩
          ·rw [if_neg c46] at H
           have c46b0 : (!(t151 == ((rd_T98 l0_4 x7_2).f0)) || (!(t152 == ((rd_T98 l0_4 x7_2).f1)) || (!(t153.toList == (((rd_T98 l0_4 x7_2).f2).toList)) || (!(t154 == ((rd_T98 l0_4 x7_2).f3)))))) = false := by simpa using c46
           clear c46
           have H' := am H
           clear H
           have hnb56 := NB147_148.out
           have hnc56 := NB148_147.out
           have q57 := cf6 BK147.out
           have p149 : 0 ≤ (x7_2 : Int) := pD
           have q149 : x7_2 < (l0_4.length : Int) := pD
           obtain ⟨ad149, e149, hx149_0, hx149_1, hx149_2, hx149_3⟩ := at_T98 HR0_4.out x7_2 p149 q149
           cases e149
           replace hx149_0 := (HB.out.cell (World.block_lt_of_cell? w _ hx149_0)).trans hx149_0
           replace hx149_1 := (HB.out.cell (World.block_lt_of_cell? w _ hx149_1)).trans hx149_1
           replace hx149_2 := (HB.out.cell (World.block_lt_of_cell? w _ hx149_2)).trans hx149_2
           replace hx149_3 := (HB.out.cell (World.block_lt_of_cell? w _ hx149_3)).trans hx149_3
           replace p149 := eq_true p149
           replace q149 := eq_true q149
           try go_wp2_with (first | ((with_reducible refine gate_dst (N := 8) rfl ?_); (try (refine gate_guard (by rfl) ?_; dsimp only)); refine box_event ?hg (N := 8) ?hd (cs := #[.int .i64 0, .int .u64 0, .string (⟨#[]⟩ : ByteArray), .int .i64 0]) (t := 98) ?hr ?_; (case hd => rfl); (case hg => rfl); (case hr => first | (go_simp; done) | (go_simp; rfl)); intro gb150 hg w58 hbox hb; have BK150 := am (hbox); have GW150 := am ((by rw [hg]; exact (below_size pB) : w.heap.size ≤ gb150)); have GE150 := am ((by rw [hg]; exact (below_size pB) : w.heap.size ≤ gb150)); have NB147_150 := am ((by rw [hg]; exact Nat.ne_of_lt (pkl BK147.out) : gb147 ≠ gb150)); have NB150_147 := am ((by rw [hg]; exact Nat.ne_of_gt (pkl BK147.out) : gb150 ≠ gb147)); replace BK147 := am (pkb BK147.out hb); have NB148_150 := am ((by rw [hg]; exact Nat.ne_of_lt (pkl BK148.out) : gb148 ≠ gb150)); have NB150_148 := am ((by rw [hg]; exact Nat.ne_of_gt (pkl BK148.out) : gb150 ≠ gb148)); replace BK148 := am (pkb BK148.out hb); replace HB := am (below_step pB hb); clear hb hbox hg; have hnb59 := NB150_147.out; have hnc59 := NB147_150.out; have hnb60 := NB150_148.out; have hnc60 := NB148_150.out; have q61 := cf4 BK150.out))
           have n0_ : Aside0 (((((w58.setCell ⟨gb150, 0, none⟩ (.int .i64 ((rd_T98 l0_4 x7_2).f0))).setCell ⟨gb150, 1, none⟩ (.int .u64 ((rd_T98 l0_4 x7_2).f1))).setCell ⟨gb150, 2, none⟩ (.string ((rd_T98 l0_4 x7_2).f2))).setCell ⟨gb150, 3, none⟩ (.int .i64 ((rd_T98 l0_4 x7_2).f3))).heap[gb147]? = some (.cells #[.int .i64 a0_0, .int .i64 a0_1, .slice A0_2 l0_2.length c0_2, .slice A0_3 l0_3.length c0_3, .slice (some ad149) l0_4.length c0_4, .slice A0_5 l0_5.length c0_5] 27 (0, 0))) := ⟨by (with_reducible repeat (first | refine blk_drewN ?_ _ | refine blk_drew ?_ | refine blk_alloc ?_ _)); refine blk_far ?_ NB147_150.out _; (with_reducible repeat (first | refine blk_drewN ?_ _ | refine blk_drew ?_ | refine blk_alloc ?_ _)); refine blk_far ?_ NB147_150.out _; (with_reducible repeat (first | refine blk_drewN ?_ _ | refine blk_drew ?_ | refine blk_alloc ?_ _)); refine blk_far ?_ NB147_150.out _; (with_reducible repeat (first | refine blk_drewN ?_ _ | refine blk_drew ?_ | refine blk_alloc ?_ _)); refine blk_far ?_ NB147_150.out _; (with_reducible repeat (first | refine blk_drewN ?_ _ | refine blk_drew ?_ | refine blk_alloc ?_ _)); exact BK147.out⟩
           have n1_ : Aside0 (((((w58.setCell ⟨gb150, 0, none⟩ (.int .i64 ((rd_T98 l0_4 x7_2).f0))).setCell ⟨gb150, 1, none⟩ (.int .u64 ((rd_T98 l0_4 x7_2).f1))).setCell ⟨gb150, 2, none⟩ (.string ((rd_T98 l0_4 x7_2).f2))).setCell ⟨gb150, 3, none⟩ (.int .i64 ((rd_T98 l0_4 x7_2).f3))).heap[gb148]? = some (.cells #[.int .i64 a1_0, .int .i64 a1_1, .slice A1_2 l1_2.length c1_2, .slice A1_3 l1_3.length c1_3, .slice A1_4 l1_4.length c1_4, .slice A1_5 l1_5.length c1_5] 27 (0, 0))) := ⟨by (with_reducible repeat (first | refine blk_drewN ?_ _ | refine blk_drew ?_ | refine blk_alloc ?_ _)); refine blk_far ?_ NB148_150.out _; (with_reducible repeat (first | refine blk_drewN ?_ _ | refine blk_drew ?_ | refine blk_alloc ?_ _)); refine blk_far ?_ NB148_150.out _; (with_reducible repeat (first | refine blk_drewN ?_ _ | refine blk_drew ?_ | refine blk_alloc ?_ _)); refine blk_far ?_ NB148_150.out _; (with_reducible repeat (first | refine blk_drewN ?_ _ | refine blk_drew ?_ | refine blk_alloc ?_ _)); refine blk_far ?_ NB148_150.out _; (with_reducible repeat (first | refine blk_drewN ?_ _ | refine blk_drew ?_ | refine blk_alloc ?_ _)); exact BK148.out⟩
           have n2_ : Aside0 (((((w58.setCell ⟨gb150, 0, none⟩ (.int .i64 ((rd_T98 l0_4 x7_2).f0))).setCell ⟨gb150, 1, none⟩ (.int .u64 ((rd_T98 l0_4 x7_2).f1))).setCell ⟨gb150, 2, none⟩ (.string ((rd_T98 l0_4 x7_2).f2))).setCell ⟨gb150, 3, none⟩ (.int .i64 ((rd_T98 l0_4 x7_2).f3))).heap[gb150]? = some (.cells #[.int .i64 ((rd_T98 l0_4 x7_2).f0), .int .u64 ((rd_T98 l0_4 x7_2).f1), .string ((rd_T98 l0_4 x7_2).f2), .int .i64 ((rd_T98 l0_4 x7_2).f3)] 98 (0, 0))) := ⟨by (with_reducible repeat (first | refine blk_drewN ?_ _ | refine blk_drew ?_ | refine blk_alloc ?_ _)); refine blk_put (cs := #[.int .i64 ((rd_T98 l0_4 x7_2).f0), .int .u64 ((rd_T98 l0_4 x7_2).f1), .string ((rd_T98 l0_4 x7_2).f2), .int .i64 0]) ?_ 3 _ rfl; (with_reducible repeat (first | refine blk_drewN ?_ _ | refine blk_drew ?_ | refine blk_alloc ?_ _)); refine blk_put (cs := #[.int .i64 ((rd_T98 l0_4 x7_2).f0), .int .u64 ((rd_T98 l0_4 x7_2).f1), .string (⟨#[]⟩ : ByteArray), .int .i64 0]) ?_ 2 _ rfl; (with_reducible repeat (first | refine blk_drewN ?_ _ | refine blk_drew ?_ | refine blk_alloc ?_ _)); refine blk_put (cs := #[.int .i64 ((rd_T98 l0_4 x7_2).f0), .int .u64 0, .string (⟨#[]⟩ : ByteArray), .int .i64 0]) ?_ 1 _ rfl; (with_reducible repeat (first | refine blk_drewN ?_ _ | refine blk_drew ?_ | refine blk_alloc ?_ _)); refine blk_put (cs := #[.int .i64 0, .int .u64 0, .string (⟨#[]⟩ : ByteArray), .int .i64 0]) ?_ 0 _ rfl; (with_reducible repeat (first | refine blk_drewN ?_ _ | refine blk_drew ?_ | refine blk_alloc ?_ _)); exact BK150.out⟩
           have n3_ : Aside0 (Below w.heap.size w ((((w58.setCell ⟨gb150, 0, none⟩ (.int .i64 ((rd_T98 l0_4 x7_2).f0))).setCell ⟨gb150, 1, none⟩ (.int .u64 ((rd_T98 l0_4 x7_2).f1))).setCell ⟨gb150, 2, none⟩ (.string ((rd_T98 l0_4 x7_2).f2))).setCell ⟨gb150, 3, none⟩ (.int .i64 ((rd_T98 l0_4 x7_2).f3)))) := ⟨pB⟩
           (try clear BK147); (try clear BK148); (try clear BK150); (try clear HB)
           generalize ((((w58.setCell ⟨gb150, 0, none⟩ (.int .i64 ((rd_T98 l0_4 x7_2).f0))).setCell ⟨gb150, 1, none⟩ (.int .u64 ((rd_T98 l0_4 x7_2).f1))).setCell ⟨gb150, 2, none⟩ (.string ((rd_T98 l0_4 x7_2).f2))).setCell ⟨gb150, 3, none⟩ (.int .i64 ((rd_T98 l0_4 x7_2).f3))) = w62 at n0_ n1_ n2_ n3_ ⊢
           have BK147 := n0_; have BK148 := n1_; have BK150 := n2_; have HB := n3_; clear n0_ n1_ n2_ n3_
           replace BK147 := am (blk_drew BK147.out)
           replace BK148 := am (blk_drew BK148.out)
           replace BK150 := am (blk_drew BK150.out)
           replace HB := am (below_drew1 HB.out)
           refine start_ (n := 14) (S := fun w' => w'.cell? ⟨gb150, 0, none⟩ = some (.int .i64 ((rd_T98 l0_4 x7_2).f0)) ∧ w'.cell? ⟨gb150, 1, none⟩ = some (.int .u64 ((rd_T98 l0_4 x7_2).f1)) ∧ w'.cell? ⟨gb150, 2, none⟩ = some (.string ((rd_T98 l0_4 x7_2).f2)) ∧ w'.cell? ⟨gb150, 3, none⟩ = some (.int .i64 ((rd_T98 l0_4 x7_2).f3))) (ds := []) (bm 14 0) (by kernel_rfl) rfl rfl ⟨cz0 BK150.out, cz1 BK150.out, cz2 BK150.out, cz3 BK150.out⟩ (fun hHeld => ?_); refine with_tabW minstrelref13_alone.tab7 minstrelref13_alone.bits7 (fun HT_ HW_ => ?_)
           generalize w62.drew = w63 at BK147 BK148 BK150 HB hHeld ⊢
           refine pure_ (i := 0) (N := some 56) (v := ?_) (a' := ?_) (bm 14 1) rfl rfl (any_of HT_.out (by kernel_rfl)) (fun _ _ _ h => h) (Or.inl ⟨by kernel_rfl, ?_⟩) ?_ ?_
           rotate_left
           ·intro w'
            go_simp
            with_reducible rfl
           rotate_left
           ·exact pA
           refine take_ (i := 1) (N := some 57) (v := ?_) (a' := ?_) (bm 14 3) rfl rfl (take_ofW HT_.out HW_.out (by kernel_rfl)) (fun _ _ _ h => h) (Or.inl ⟨by kernel_rfl, ?_⟩) hHeld ?_ ?_
           rotate_left
           ·rintro w' ⟨s0, s1, s2, s3⟩
            go_simp
            with_reducible rfl
           rotate_left
           ·exact pA
           refine pure_ (i := 2) (N := some 58) (v := ?_) (a' := ?_) (bm 14 7) rfl rfl (any_of HT_.out (by kernel_rfl)) (fun _ _ _ h => h) (Or.inl ⟨by kernel_rfl, ?_⟩) ?_ ?_
           rotate_left
           ·intro w'
            go_simp
            with_reducible rfl
           rotate_left
           ·exact pA
           refine pure_ (i := 3) (N := some 59) (v := ?_) (a' := ?_) (bm 14 15) rfl rfl (any_of HT_.out (by kernel_rfl)) (fun _ _ _ h => h) (Or.inl ⟨by kernel_rfl, ?_⟩) ?_ ?_
           rotate_left
           ·intro w'
            go_simp
            with_reducible rfl
           rotate_left
           ·exact pA
           refine pure_ (i := 4) (N := some 60) (v := ?_) (a' := ?_) (bm 14 31) rfl rfl (any_of HT_.out (by kernel_rfl)) (fun _ _ _ h => h) (Or.inl ⟨by kernel_rfl, ?_⟩) ?_ ?_
           rotate_left
           ·intro w'
            go_simp
            with_reducible rfl
           rotate_left
           ·exact pA
           refine take_ (i := 5) (N := some 61) (v := ?_) (a' := ?_) (bm 14 63) rfl rfl (take_ofW HT_.out HW_.out (by kernel_rfl)) (fun _ _ _ h => h) (Or.inl ⟨by kernel_rfl, ?_⟩) hHeld ?_ ?_
           rotate_left
           ·rintro w' ⟨s0, s1, s2, s3⟩
            go_simp
            with_reducible rfl
           rotate_left
           ·exact pA
           refine pure_ (i := 6) (N := some 62) (v := ?_) (a' := ?_) (bm 14 127) rfl rfl (any_of HT_.out (by kernel_rfl)) (fun _ _ _ h => h) (Or.inl ⟨by kernel_rfl, ?_⟩) ?_ ?_
           rotate_left
           ·intro w'
            go_simp
            with_reducible rfl
           rotate_left
           ·exact pA
           refine pure_ (i := 7) (N := some 63) (v := ?_) (a' := ?_) (bm 14 255) rfl rfl (any_of HT_.out (by kernel_rfl)) (fun _ _ _ h => h) (Or.inl ⟨by kernel_rfl, ?_⟩) ?_ ?_
           rotate_left
           ·intro w'
            go_simp
            with_reducible rfl
           rotate_left
           ·exact pA
           refine pure_ (i := 8) (N := some 64) (v := ?_) (a' := ?_) (bm 14 511) rfl rfl (any_of HT_.out (by kernel_rfl)) (fun _ _ _ h => h) (Or.inl ⟨by kernel_rfl, ?_⟩) ?_ ?_
           rotate_left
           ·intro w'
            go_simp
            with_reducible rfl
           rotate_left
           ·exact pA
           refine take_ (i := 9) (N := some 65) (v := ?_) (a' := ?_) (bm 14 1023) rfl rfl (take_ofW HT_.out HW_.out (by kernel_rfl)) (fun _ _ _ h => h) (Or.inl ⟨by kernel_rfl, ?_⟩) hHeld ?_ ?_
           rotate_left
           ·rintro w' ⟨s0, s1, s2, s3⟩
            go_simp
            with_reducible rfl
           rotate_left
           ·exact pA
           refine take_ (i := 11) (N := some 67) (v := ?_) (a' := ?_) (bm 14 3071) rfl rfl (take_ofW HT_.out HW_.out (by kernel_rfl)) (fun _ _ _ h => h) (Or.inl ⟨by kernel_rfl, ?_⟩) hHeld ?_ ?_
           rotate_left
           ·rintro w' ⟨s0, s1, s2, s3⟩
            go_simp
            with_reducible rfl
           rotate_left
           ·exact pA
           refine one_ (i := 10) (N := some 66) (bm 14 4095) rfl rfl (one_of HT_.out (by kernel_rfl)) (by decide) (fun K hK => ?_)
           refine goes_ Tryd.func69 (by kernel_rfl) rfl #[.agg #[.int .i64 ((rd_T98 l0_4 x7_2).f0), .int .u64 ((rd_T98 l0_4 x7_2).f1), .string ((rd_T98 l0_4 x7_2).f2), .int .i64 ((rd_T98 l0_4 x7_2).f3)]] (by rfl) rfl rfl pM ?_
           with_reducible refine (minstrelref08_Normal.calls k2 ((rd_T98 l0_4 x7_2).f0) ((rd_T98 l0_4 x7_2).f1) ((rd_T98 l0_4 x7_2).f2) ((rd_T98 l0_4 x7_2).f3) t151 t152 t153 t154 _ A45.out).mono ?_
           rintro e w64 ⟨rfl, hb⟩
           refine ⟨_, rfl, ?_⟩
           have n0_ := am (pkb BK147.out hb)
           have n1_ := am (pkb BK148.out hb)
           have n2_ := am (pkb BK150.out hb)
           have n3_ := am (below_step pB hb)
           clear BK147 BK148 BK150 HB; have BK147 := n0_; have BK148 := n1_; have BK150 := n2_; have HB := n3_; clear n0_ n1_ n2_ n3_; (try clear hb); (try clear hb2); (try clear hk); (try clear hi)
           refine hK.out _ _ ⟨cz0 BK150.out, cz1 BK150.out, cz2 BK150.out, cz3 BK150.out⟩ (fun hHeld => ?_)
           clear hK K
           refine norm_ (a' := ?_) ?_ ?_
           rotate_left
           ·show Act.put _ (some 66) _ = _
            exact pA
           refine pure_ (i := 12) (N := some 68) (v := ?_) (a' := ?_) (bm 14 8191) rfl rfl (any_of HT_.out (by kernel_rfl)) (fun _ _ _ h => h) (Or.inl ⟨by kernel_rfl, ?_⟩) ?_ ?_
           rotate_left
           ·intro w'
            go_simp
            with_reducible rfl
           rotate_left
           ·exact pA
           refine pure_ (i := 13) (N := some 69) (v := ?_) (a' := ?_) (bm 14 16383) rfl rfl (any_of HT_.out (by kernel_rfl)) (fun _ _ _ h => h) (Or.inl ⟨by kernel_rfl, ?_⟩) ?_ ?_
           rotate_left
           ·intro w'
            go_simp
            with_reducible rfl
           rotate_left
           ·exact pA
           refine done_ (done_of HT_.out (by kernel_rfl)) ?_
           try go_wp2
           go_roundg k2
           case measure => have := HJ3.out; have := HK2.out; omega
           case rel => exact ⟨(wrap64 (x7_2 + 1)), (by first | rfl | (simp; done) | (simp [*]; done)), H', ⟨by have := HJ3.out; have := HK2.out; omega⟩, ⟨by (with_reducible repeat (first | refine blk_drewN ?_ _ | refine blk_drew ?_ | refine blk_alloc ?_ _)); exact BK147.out⟩, ⟨by (with_reducible repeat (first | refine blk_drewN ?_ _ | refine blk_drew ?_ | refine blk_alloc ?_ _)); exact BK148.out⟩, ⟨pB⟩⟩
       ·rw [if_neg c26] at H
        exact absurd H (by simp)
      ·rw [if_neg c25] at H
       have c25b0 : decide (x7_2 < (l0_4.length : Int)) = false := decide_eq_false c25
       clear c25
       obtain ⟨ji65, hji65⟩ : ∃ j_ : Int, (wrap64 ((l0_3.length : Int) - 1)) = j_ := ⟨_, rfl⟩
       replace H : (if 0 ≤ (ji65) then (if (ji65) < (l0_3.length : Int) then (if ((rd_T36 l0_3 (ji65)).f0) = 29 then (minstrelref13_alone.j2 k2 false a0_0 a0_1 l0_2 l0_3 l0_4 l0_5 a1_0 a1_1 l1_2 l1_3 l1_4 l1_5) else (if ((rd_T36 l0_3 (ji65)).f0) = 33 then (minstrelref13_alone.j2 k2 false a0_0 a0_1 l0_2 l0_3 l0_4 l0_5 a1_0 a1_1 l1_2 l1_3 l1_4 l1_5) else (minstrelref13_alone.j2 k2 (((rd_T36 l0_3 (ji65)).f0) != 34) a0_0 a0_1 l0_2 l0_3 l0_4 l0_5 a1_0 a1_1 l1_2 l1_3 l1_4 l1_5))) else (none)) else (none)) = some r := by first | (rw [hji65] at H; exact H) | (simp only [hji65] at H ⊢; exact H)
       have hji65w : (IntKind.i64.wrap ((l0_3.length : Int) - 1)) = ji65 := (i64_w _).trans hji65
       by_cases c66 : 0 ≤ (ji65)
       ·rw [if_pos c66] at H
        have c66b0 : decide (0 ≤ (ji65)) = true := decide_eq_true c66
        clear c66
        by_cases c67 : (ji65) < (l0_3.length : Int)
        ·rw [if_pos c67] at H
         have c67b0 : decide ((ji65) < (l0_3.length : Int)) = true := decide_eq_true c67
         clear c67
         have HC68 := am H
         clear H
         have hnb69 := NB147_148.out
         have hnc69 := NB148_147.out
         have q70 := cf6 BK147.out
         have p155 : 0 ≤ ((ji65) : Int) := pD
         have q155 : (ji65) < (l0_3.length : Int) := pD
         obtain ⟨ad155, e155, hx155_0, hx155_1, hx155_2, hx155_3⟩ := at_T36 HR0_3.out (ji65) p155 q155
         cases e155
         replace hx155_0 := (HB.out.cell (World.block_lt_of_cell? w _ hx155_0)).trans hx155_0
         replace hx155_1 := (HB.out.cell (World.block_lt_of_cell? w _ hx155_1)).trans hx155_1
         replace hx155_2 := (HB.out.cell (World.block_lt_of_cell? w _ hx155_2)).trans hx155_2
         replace hx155_3 := (HB.out.cell (World.block_lt_of_cell? w _ hx155_3)).trans hx155_3
         replace p155 := eq_true p155
         replace q155 := eq_true q155
         go_upto_region 10 with (fail)
         go_cut [88] (fun v88 wc => ∃ (kq : Nat) (x88_67 : Bool), v88 = .bool x88_67 ∧ Aside0 (minstrelref13_alone.j2 kq x88_67 a0_0 a0_1 l0_2 l0_3 l0_4 l0_5 a1_0 a1_1 l1_2 l1_3 l1_4 l1_5 = some r) ∧ Aside0 (kq ≤ k2) ∧ Aside0 (wc.heap[gb147]? = some (.cells #[.int .i64 a0_0, .int .i64 a0_1, (.slice A0_2 l0_2.length c0_2), (.slice (some ad155) l0_3.length c0_3), (.slice A0_4 l0_4.length c0_4), (.slice A0_5 l0_5.length c0_5)] 27 (0, 0))) ∧ Aside0 (wc.heap[gb148]? = some (.cells #[.int .i64 a1_0, .int .i64 a1_1, (.slice A1_2 l1_2.length c1_2), (.slice A1_3 l1_3.length c1_3), (.slice A1_4 l1_4.length c1_4), (.slice A1_5 l1_5.length c1_5)] 27 (0, 0))) ∧ Aside0 (Below w.heap.size w wc))
         case first =>
          have H := HC68.out
          clear HC68
          by_cases c71 : ((rd_T36 l0_3 (ji65)).f0) = 29
          ·rw [if_pos c71] at H
           have c71b0 : (((rd_T36 l0_3 (ji65)).f0) == 29) = true := beq_iff_eq.mpr c71
           have c71b1 : (((rd_T36 l0_3 (ji65)).f0) != 29) = false := bne_eq_false_iff_eq.mpr c71
           clear c71
           (first | rw [c71b0] | (simp only [i64_w, i32_w]; rw [c71b0]) | rw [c71b1] | (simp only [i64_w, i32_w]; rw [c71b1]) | skip)
           have H' := am H
           clear H
           go_wp2
           go_meet
           case rel => exact ⟨_, (false), (by first | rfl | (simp; done) | (simp [*]; done)), H', ⟨by have := HJ3.out; have := HK2.out; first | omega | exact Nat.le_refl _⟩, ⟨by (with_reducible repeat (first | refine blk_drewN ?_ _ | refine blk_drew ?_ | refine blk_alloc ?_ _)); exact BK147.out⟩, ⟨by (with_reducible repeat (first | refine blk_drewN ?_ _ | refine blk_drew ?_ | refine blk_alloc ?_ _)); exact BK148.out⟩, ⟨pB⟩⟩
          ·rw [if_neg c71] at H
           have c71b0 : (((rd_T36 l0_3 (ji65)).f0) == 29) = false := beq_eq_false_iff_ne.mpr c71
           have c71b1 : (((rd_T36 l0_3 (ji65)).f0) != 29) = true := bne_iff_ne.mpr c71
           (first | rw [c71b0] | (simp only [i64_w, i32_w]; rw [c71b0]) | rw [c71b1] | (simp only [i64_w, i32_w]; rw [c71b1]) | skip)
           by_cases c72 : ((rd_T36 l0_3 (ji65)).f0) = 33
           ·rw [if_pos c72] at H
            have c72b0 : (((rd_T36 l0_3 (ji65)).f0) == 33) = true := beq_iff_eq.mpr c72
            have c72b1 : (((rd_T36 l0_3 (ji65)).f0) != 33) = false := bne_eq_false_iff_eq.mpr c72
            clear c72
            have H' := am H
            clear H
            go_wp2
            go_meet
            case rel => exact ⟨_, (false), (by first | rfl | (simp; done) | (simp [*]; done)), H', ⟨by have := HJ3.out; have := HK2.out; first | omega | exact Nat.le_refl _⟩, ⟨by (with_reducible repeat (first | refine blk_drewN ?_ _ | refine blk_drew ?_ | refine blk_alloc ?_ _)); exact BK147.out⟩, ⟨by (with_reducible repeat (first | refine blk_drewN ?_ _ | refine blk_drew ?_ | refine blk_alloc ?_ _)); exact BK148.out⟩, ⟨pB⟩⟩
           ·rw [if_neg c72] at H
            have c72b0 : (((rd_T36 l0_3 (ji65)).f0) == 33) = false := beq_eq_false_iff_ne.mpr c72
            have c72b1 : (((rd_T36 l0_3 (ji65)).f0) != 33) = true := bne_iff_ne.mpr c72
            have H' := am H
            clear H
            go_wp2
            go_meet
            case rel => exact ⟨_, ((((rd_T36 l0_3 (ji65)).f0) != 34)), (by first | rfl | (simp; done) | (simp only [← hji65] <;> (first | rfl | simp)) | (simp [*]; done)), H', ⟨by have := HJ3.out; have := HK2.out; first | omega | exact Nat.le_refl _⟩, ⟨by (with_reducible repeat (first | refine blk_drewN ?_ _ | refine blk_drew ?_ | refine blk_alloc ?_ _)); exact BK147.out⟩, ⟨by (with_reducible repeat (first | refine blk_drewN ?_ _ | refine blk_drew ?_ | refine blk_alloc ?_ _)); exact BK148.out⟩, ⟨pB⟩⟩
         case rest =>
          clear HC68
          try clear c1
          try clear p1
          try clear q1
          try clear hx1
          try clear c2
          try clear p2
          try clear c3
          try clear c4
          try clear c5
          try clear c6
          try clear p6
          try clear c7
          try clear p14
          try clear q14
          try clear hx14
          try clear p15
          try clear q15
          try clear hx15
          try clear c25
          try clear c25b0
          try clear c26
          try clear c36
          try clear c36b0
          try clear c46
          try clear c46b0
          try clear c47
          try clear c50
          try clear c51
          try clear c56
          try clear c59
          try clear c60
          try clear p64
          try clear c66
          try clear c66b0
          try clear c67
          try clear c67b0
          try clear c69
          try clear c71
          try clear c71b0
          try clear c71b1
          try clear c72
          try clear c72b0
          try clear c72b1
          try clear q48 q52 q57 q61 q70
          try clear hx149_0
          try clear hx149_1
          try clear hx149_2
          try clear hx149_3
          try clear hx155_0
          try clear hx155_1
          try clear hx155_2
          try clear hx155_3
          try clear p149
          try clear p155
          try clear q149
          try clear q155
          obtain ⟨kq, x88_67, rfl, HA, HJ67, BK147, BK148, HB⟩ := hcut
          cases kq with
          | zero => exact absurd HA.out (by simp [minstrelref13_alone.j2])
          | succ kj67 =>
           have H := HA.out
           clear HA
           simp only [minstrelref13_alone.j2] at H
           by_cases c73 : x88_67 = true
           ·subst c73
            rw [if_pos rfl] at H
            obtain rfl := Option.some.inj H
            go_wp2
            go_ret
            exact ⟨by first | rfl | (simp [errW_none, errW_some] <;> rfl) | (simp only [← hji65]; first | rfl | (simp [errW_none, errW_some] <;> rfl)) | (simp [*, errW_none, errW_some] <;> rfl), pB⟩
           ·replace c73 := Bool.eq_false_iff.mpr c73
            subst c73
            rw [if_neg (show ¬ (false = true) by decide)] at H
            have H' := am H
            clear H
            go_wp2
            go_loopg [10] kj67 (fun kq v10 w' => ∃ (x10_4 : Int), v10 = .int .i64 x10_4 ∧ Aside0 (minstrelref13_alone.l1 kq x10_4 a0_0 a0_1 l0_2 l0_3 l0_4 l0_5 a1_0 a1_1 l1_2 l1_3 l1_4 l1_5 = some r) ∧ Aside0 (kq ≤ kj67) ∧ Aside0 (w'.heap[gb147]? = some (.cells #[.int .i64 a0_0, .int .i64 a0_1, (.slice A0_2 l0_2.length c0_2), (.slice (some ad155) l0_3.length c0_3), (.slice A0_4 l0_4.length c0_4), (.slice A0_5 l0_5.length c0_5)] 27 (0, 0))) ∧ Aside0 (w'.heap[gb148]? = some (.cells #[.int .i64 a1_0, .int .i64 a1_1, (.slice A1_2 l1_2.length c1_2), (.slice A1_3 l1_3.length c1_3), (.slice A1_4 l1_4.length c1_4), (.slice A1_5 l1_5.length c1_5)] 27 (0, 0))) ∧ Aside0 (Below w.heap.size w w'))
            case atStart => exact ⟨(0), (by first | rfl | (simp; done) | (simp [*]; done)), H', ⟨Nat.le_refl _⟩, ⟨by (with_reducible repeat (first | refine blk_drewN ?_ _ | refine blk_drew ?_ | refine blk_alloc ?_ _)); exact BK147.out⟩, ⟨by (with_reducible repeat (first | refine blk_drewN ?_ _ | refine blk_drew ?_ | refine blk_alloc ?_ _)); exact BK148.out⟩, ⟨pB⟩⟩
            case round =>
             clear H'
             try clear c1
             try clear p1
             try clear q1
             try clear hx1
             try clear c2
             try clear p2
             try clear c3
             try clear c4
             try clear c5
             try clear c6
             try clear p6
             try clear c7
             try clear p14
             try clear q14
             try clear hx14
             try clear p15
             try clear q15
             try clear hx15
             try clear c25
             try clear c25b0
             try clear c26
             try clear c36
             try clear c36b0
             try clear c46
             try clear c46b0
             try clear c47
             try clear c50
             try clear c51
             try clear c56
             try clear c59
             try clear c60
             try clear p64
             try clear c66
             try clear c66b0
             try clear c67
             try clear c67b0
             try clear c69
             try clear c71
             try clear c71b0
             try clear c71b1
             try clear c72
             try clear c72b0
             try clear c72b1
             try clear c73
             try clear q48 q52 q57 q61 q70
             try clear hx149_0
             try clear hx149_1
             try clear hx149_2
             try clear hx149_3
             try clear hx155_0
             try clear hx155_1
             try clear hx155_2
             try clear hx155_3
             try clear p1
             try clear p14
             try clear p149
             try clear p15
             try clear p155
             try clear p2
             try clear p6
             try clear p64
             try clear q1
             try clear q14
             try clear q149
             try clear q15
             try clear q155
             obtain ⟨x10_4, rfl, HA, HK4, BK147, BK148, HB⟩ := hrel
             cases gk with
             | zero => exact absurd HA.out (by simp [minstrelref13_alone.l1])
             | succ k4 =>
              have H := HA.out
              clear HA
              simp only [minstrelref13_alone.l1] at H
              by_cases c74 : x10_4 < (l0_2.length : Int)
              ·rw [if_pos c74] at H
               have c74b0 : decide (x10_4 < (l0_2.length : Int)) = true := decide_eq_true c74
               clear c74
               by_cases c75 : 0 ≤ x10_4
               ·rw [if_pos c75] at H
                have c75b0 : decide (0 ≤ x10_4) = true := decide_eq_true c75
                clear c75
                obtain ⟨bq76, hbq76⟩ : ∃ b_ : Bool, b_ = ((rd_T94 l0_2 x10_4).f0) := ⟨_, rfl⟩
                replace H : (if bq76 = true then (if ((rd_T94 l0_2 x10_4).f1) < 0 then (some 1) else (if ((rd_T94 l0_2 x10_4).f1) ≥ a1_1 then (some 1) else (minstrelref13_alone.l1 k4 (wrap64 (x10_4 + 1)) a0_0 a0_1 l0_2 l0_3 l0_4 l0_5 a1_0 a1_1 l1_2 l1_3 l1_4 l1_5))) else (if ((rd_T94 l0_2 x10_4).f1) < 0 then (some 1) else (if ((rd_T94 l0_2 x10_4).f1) ≥ (l1_2.length : Int) then (some 1) else (minstrelref13_alone.l1 k4 (wrap64 (x10_4 + 1)) a0_0 a0_1 l0_2 l0_3 l0_4 l0_5 a1_0 a1_1 l1_2 l1_3 l1_4 l1_5)))) = some r := by rw [← hbq76] at H; exact H
                have Nbq76 := am hbq76
                clear hbq76
                by_cases c77 : bq76 = true
                ·subst c77
                 rw [if_pos rfl] at H
                 by_cases c78 : ((rd_T94 l0_2 x10_4).f1) < 0
                 ·rw [if_pos c78] at H
                  have c78b0 : decide (((rd_T94 l0_2 x10_4).f1) < 0) = true := decide_eq_true c78
                  clear c78
                  obtain rfl := Option.some.inj H
                  have hnb79 := NB147_148.out
                  have hnc79 := NB148_147.out
                  have q80 := cf6 BK147.out
                  try go_wp2
                  replace BK147 := am (blk_drew BK147.out)
                  replace BK148 := am (blk_drew BK148.out)
                  replace HB := am (below_drew1 HB.out)
                  have p156 : 0 ≤ (x10_4 : Int) := pD
                  have q156 : x10_4 < (l0_2.length : Int) := pD
                  obtain ⟨ad156, e156, hx156_0, hx156_1⟩ := at_T94 HR0_2.out x10_4 p156 q156
                  have hw156_1 := hx156_1
                  (try rw [← Nbq76.out] at hx156_0)
                  have hw156_0 := hx156_0
                  cases e156
                  replace hx156_0 := (HB.out.cell (World.block_lt_of_cell? w _ hx156_0)).trans hx156_0
                  replace hx156_1 := (HB.out.cell (World.block_lt_of_cell? w _ hx156_1)).trans hx156_1
                  replace p156 := eq_true p156
                  replace q156 := eq_true q156
                  refine start_ (n := 11) (S := fun w' => w'.cell? ⟨gb147, 0, none⟩ = some (.int .i64 a0_0) ∧ w'.cell? ⟨gb147, 1, none⟩ = some (.int .i64 a0_1) ∧ w'.cell? ⟨gb147, 2, none⟩ = some (.slice (some ad156) l0_2.length c0_2) ∧ w'.cell? ⟨gb147, 3, none⟩ = some (.slice (some ad155) l0_3.length c0_3) ∧ w'.cell? ⟨gb147, 4, none⟩ = some (.slice A0_4 l0_4.length c0_4) ∧ w'.cell? ⟨gb147, 5, none⟩ = some (.slice A0_5 l0_5.length c0_5) ∧ w'.cell? ⟨gb148, 0, none⟩ = some (.int .i64 a1_0) ∧ w'.cell? ⟨gb148, 1, none⟩ = some (.int .i64 a1_1) ∧ w'.cell? ⟨gb148, 2, none⟩ = some (.slice A1_2 l1_2.length c1_2) ∧ w'.cell? ⟨gb148, 3, none⟩ = some (.slice A1_3 l1_3.length c1_3) ∧ w'.cell? ⟨gb148, 4, none⟩ = some (.slice A1_4 l1_4.length c1_4) ∧ w'.cell? ⟨gb148, 5, none⟩ = some (.slice A1_5 l1_5.length c1_5) ∧ w'.cell? (ad156.add ((x10_4).toNat * 2)) = some (.bool true) ∧ w'.cell? ⟨(ad156.add ((x10_4).toNat * 2)).block, (ad156.add ((x10_4).toNat * 2)).off + 1, none⟩ = some (.int .i64 ((rd_T94 l0_2 x10_4).f1))) (ds := []) (bm 11 0) (by kernel_rfl) rfl rfl ⟨cz0 BK147.out, cz1 BK147.out, cz2 BK147.out, cz3 BK147.out, cz4 BK147.out, cz5 BK147.out, cz0 BK148.out, cz1 BK148.out, cz2 BK148.out, cz3 BK148.out, cz4 BK148.out, cz5 BK148.out, ((HB.out.cell (World.block_lt_of_cell? w _ hw156_0)).trans hw156_0), ((HB.out.cell (World.block_lt_of_cell? w _ hw156_1)).trans hw156_1)⟩ (fun hHeld => ?_); refine with_tabW minstrelref13_alone.tab15 minstrelref13_alone.bits15 (fun HT_ HW_ => ?_)
                  generalize wr.drew = w81 at BK147 BK148 HB hx156_0 hx156_1 hHeld ⊢
                  refine pure_ (i := 0) (N := some 96) (v := ?_) (a' := ?_) (bm 11 1) rfl rfl (any_of HT_.out (by kernel_rfl)) (fun _ _ _ h => h) (Or.inl ⟨by kernel_rfl, ?_⟩) ?_ ?_
                  rotate_left
                  ·intro w'
                   go_simp
                   with_reducible rfl
                  rotate_left
                  ·exact pA
                  refine pure_ (i := 2) (N := some 98) (v := ?_) (a' := ?_) (bm 11 5) rfl rfl (any_of HT_.out (by kernel_rfl)) (fun _ _ _ h => h) (Or.inl ⟨by kernel_rfl, ?_⟩) ?_ ?_
                  rotate_left
                  ·intro w'
                   go_simp
                   with_reducible rfl
                  rotate_left
                  ·exact pA
                  refine pure_ (i := 5) (N := some 101) (v := ?_) (a' := ?_) (bm 11 37) rfl rfl (any_of HT_.out (by kernel_rfl)) (fun _ _ _ h => h) (Or.inl ⟨by kernel_rfl, ?_⟩) ?_ ?_
                  rotate_left
                  ·intro w'
                   go_simp
                   with_reducible rfl
                  rotate_left
                  ·exact pA
                  refine take_ (i := 1) (N := some 97) (v := ?_) (a' := ?_) (bm 11 39) rfl rfl (take_ofW HT_.out HW_.out (by kernel_rfl)) (fun _ _ _ h => h) (Or.inl ⟨by kernel_rfl, ?_⟩) hHeld ?_ ?_
                  rotate_left
                  ·rintro w' ⟨s0, s1, s2, s3, s4, s5, s6, s7, s8, s9, s10, s11, s12, s13⟩
                   go_simp
                   with_reducible rfl
                  rotate_left
                  ·exact pA
                  refine pure_ (i := 3) (N := some 99) (v := ?_) (a' := ?_) (bm 11 47) rfl rfl (any_of HT_.out (by kernel_rfl)) (fun _ _ _ h => h) (Or.inl ⟨by kernel_rfl, ?_⟩) ?_ ?_
                  rotate_left
                  ·intro w'
                   go_simp
                   with_reducible rfl
                  rotate_left
                  ·exact pA
                  refine take_ (i := 4) (N := some 100) (v := ?_) (a' := ?_) (bm 11 63) rfl rfl (take_ofW HT_.out HW_.out (by kernel_rfl)) (fun _ _ _ h => h) (Or.inl ⟨by kernel_rfl, ?_⟩) hHeld ?_ ?_
                  rotate_left
                  ·rintro w' ⟨s0, s1, s2, s3, s4, s5, s6, s7, s8, s9, s10, s11, s12, s13⟩
                   go_simp
                   with_reducible rfl
                  rotate_left
                  ·exact pA
                  refine take_ (i := 6) (N := some 102) (v := ?_) (a' := ?_) (bm 11 127) rfl rfl (take_ofW HT_.out HW_.out (by kernel_rfl)) (fun _ _ _ h => h) (Or.inl ⟨by kernel_rfl, ?_⟩) hHeld ?_ ?_
                  rotate_left
                  ·rintro w' ⟨s0, s1, s2, s3, s4, s5, s6, s7, s8, s9, s10, s11, s12, s13⟩
                   go_simp
                   with_reducible rfl
                  rotate_left
                  ·exact pA
                  refine pure_ (i := 7) (N := some 103) (v := ?_) (a' := ?_) (bm 11 255) rfl rfl (any_of HT_.out (by kernel_rfl)) (fun _ _ _ h => h) (Or.inl ⟨by kernel_rfl, ?_⟩) ?_ ?_
                  rotate_left
                  ·intro w'
                   go_simp
                   with_reducible rfl
                  rotate_left
                  ·exact pA
                  refine one_ (i := 8) (N := some 11) (bm 11 511) rfl rfl (one_of HT_.out (by kernel_rfl)) (by decide) (fun K hK => ?_)
                  refine box_step ?hg (N := 11) ?hd (cs := #[.bool false, .int .i64 0]) (t := 94) ?hr ?_; (case hd => rfl); (case hg => rfl); (case hr => first | (go_simp; done) | (go_simp; rfl))
                  intro gb157 hg w82 hbox hb
                  have n0_ := am (pkb BK147.out hb)
                  have n1_ := am (pkb BK148.out hb)
                  have n2_ := am (below_step pB hb)
                  have n3_ := am (hbox)
                  have n4_ := am ((by rw [hg]; exact (below_size pB) : w.heap.size ≤ gb157))
                  have n5_ := am ((by rw [hg]; exact (below_size pB) : w.heap.size ≤ gb157))
                  have n6_ := am ((by rw [hg]; exact Nat.ne_of_lt (pkl BK147.out) : gb147 ≠ gb157))
                  have n7_ := am ((by rw [hg]; exact Nat.ne_of_gt (pkl BK147.out) : gb157 ≠ gb147))
                  have n8_ := am ((by rw [hg]; exact Nat.ne_of_lt (pkl BK148.out) : gb148 ≠ gb157))
                  have n9_ := am ((by rw [hg]; exact Nat.ne_of_gt (pkl BK148.out) : gb157 ≠ gb148))
                  clear BK147 BK148 HB; have BK147 := n0_; have BK148 := n1_; have HB := n2_; have BK157 := n3_; have GW157 := n4_; have GE157 := n5_; have NB147_157 := n6_; have NB157_147 := n7_; have NB148_157 := n8_; have NB157_148 := n9_; clear n0_ n1_ n2_ n3_ n4_ n5_ n6_ n7_ n8_ n9_ hb hbox hg
                  refine hK.out _ _ ⟨cz0 BK147.out, cz1 BK147.out, cz2 BK147.out, cz3 BK147.out, cz4 BK147.out, cz5 BK147.out, cz0 BK148.out, cz1 BK148.out, cz2 BK148.out, cz3 BK148.out, cz4 BK148.out, cz5 BK148.out, ((HB.out.cell (World.block_lt_of_cell? w _ hw156_0)).trans hw156_0), ((HB.out.cell (World.block_lt_of_cell? w _ hw156_1)).trans hw156_1)⟩ (fun hHeld => ?_)
                  clear hK K
                  refine norm_ (a' := ?_) ?_ ?_
                  rotate_left
                  ·show Act.put _ (some 11) _ = _
                   exact pA
                  refine one_ (i := 9) (N := none) (bm 11 1023) rfl rfl (one_of HT_.out (by kernel_rfl)) (by decide) (fun K hK => ?_)
                  have hs83 : w82.cell? ⟨gb157, 0, none⟩ = some (.bool false) := cz0 BK157.out
                  have hfs83 := blk_frozen BK157.out 0
                  have hns83_0 := NB147_157.out
                  have hns83_1 := NB148_157.out
                  have hms83_0 := NB157_147.out
                  have hms83_1 := NB157_148.out
                  have hs84 : w82.cell? ⟨gb157, 1, none⟩ = some (.int .i64 0) := cz1 BK157.out
                  have hfs84 := blk_frozen BK157.out 1
                  have hns84_0 := NB147_157.out
                  have hns84_1 := NB148_157.out
                  have hms84_0 := NB157_147.out
                  have hms84_1 := NB157_148.out
                  refine skip_ (w1 := ?_) ?hw rfl ?_ ?_; (case hw => kernel_rfl)
                  rotate_left
                  ·go_simp
                   rfl
                  refine hK.out _ _ ⟨((cell_far (p := ⟨gb157, _, none⟩) NB147_157.out _).trans (((cell_far (p := ⟨gb157, _, none⟩) NB147_157.out _).trans (hHeld.1)))), ((cell_far (p := ⟨gb157, _, none⟩) NB147_157.out _).trans (((cell_far (p := ⟨gb157, _, none⟩) NB147_157.out _).trans (hHeld.2.1)))), ((cell_far (p := ⟨gb157, _, none⟩) NB147_157.out _).trans (((cell_far (p := ⟨gb157, _, none⟩) NB147_157.out _).trans (hHeld.2.2.1)))), ((cell_far (p := ⟨gb157, _, none⟩) NB147_157.out _).trans (((cell_far (p := ⟨gb157, _, none⟩) NB147_157.out _).trans (hHeld.2.2.2.1)))), ((cell_far (p := ⟨gb157, _, none⟩) NB147_157.out _).trans (((cell_far (p := ⟨gb157, _, none⟩) NB147_157.out _).trans (hHeld.2.2.2.2.1)))), ((cell_far (p := ⟨gb157, _, none⟩) NB147_157.out _).trans (((cell_far (p := ⟨gb157, _, none⟩) NB147_157.out _).trans (hHeld.2.2.2.2.2.1)))), ((cell_far (p := ⟨gb157, _, none⟩) NB148_157.out _).trans (((cell_far (p := ⟨gb157, _, none⟩) NB148_157.out _).trans (hHeld.2.2.2.2.2.2.1)))), ((cell_far (p := ⟨gb157, _, none⟩) NB148_157.out _).trans (((cell_far (p := ⟨gb157, _, none⟩) NB148_157.out _).trans (hHeld.2.2.2.2.2.2.2.1)))), ((cell_far (p := ⟨gb157, _, none⟩) NB148_157.out _).trans (((cell_far (p := ⟨gb157, _, none⟩) NB148_157.out _).trans (hHeld.2.2.2.2.2.2.2.2.1)))), ((cell_far (p := ⟨gb157, _, none⟩) NB148_157.out _).trans (((cell_far (p := ⟨gb157, _, none⟩) NB148_157.out _).trans (hHeld.2.2.2.2.2.2.2.2.2.1)))), ((cell_far (p := ⟨gb157, _, none⟩) NB148_157.out _).trans (((cell_far (p := ⟨gb157, _, none⟩) NB148_157.out _).trans (hHeld.2.2.2.2.2.2.2.2.2.2.1)))), ((cell_far (p := ⟨gb157, _, none⟩) NB148_157.out _).trans (((cell_far (p := ⟨gb157, _, none⟩) NB148_157.out _).trans (hHeld.2.2.2.2.2.2.2.2.2.2.2.1)))), ((cell_far (p := ⟨gb157, _, none⟩) (by first | exact Nat.ne_of_lt (Nat.lt_of_lt_of_le (by have := World.block_lt_of_cell? _ _ hw156_0; first | rwa [add_block] at this | exact this) GW157.out) | (rw [add_block]; exact Nat.ne_of_lt (Nat.lt_of_lt_of_le (by have := World.block_lt_of_cell? _ _ hw156_0; first | rwa [add_block] at this | exact this) GW157.out)) | (show (Addr.add _ _).block ≠ _; rw [add_block]; exact Nat.ne_of_lt (Nat.lt_of_lt_of_le (by have := World.block_lt_of_cell? _ _ hw156_0; first | rwa [add_block] at this | exact this) GW157.out)) | (dsimp only; exact Nat.ne_of_lt (Nat.lt_of_lt_of_le (by have := World.block_lt_of_cell? _ _ hw156_0; first | rwa [add_block] at this | exact this) GW157.out))) _).trans (((cell_far (p := ⟨gb157, _, none⟩) (by first | exact Nat.ne_of_lt (Nat.lt_of_lt_of_le (by have := World.block_lt_of_cell? _ _ hw156_0; first | rwa [add_block] at this | exact this) GW157.out) | (rw [add_block]; exact Nat.ne_of_lt (Nat.lt_of_lt_of_le (by have := World.block_lt_of_cell? _ _ hw156_0; first | rwa [add_block] at this | exact this) GW157.out)) | (show (Addr.add _ _).block ≠ _; rw [add_block]; exact Nat.ne_of_lt (Nat.lt_of_lt_of_le (by have := World.block_lt_of_cell? _ _ hw156_0; first | rwa [add_block] at this | exact this) GW157.out)) | (dsimp only; exact Nat.ne_of_lt (Nat.lt_of_lt_of_le (by have := World.block_lt_of_cell? _ _ hw156_0; first | rwa [add_block] at this | exact this) GW157.out))) _).trans (hHeld.2.2.2.2.2.2.2.2.2.2.2.2.1)))), ((cell_far (p := ⟨gb157, _, none⟩) (by first | exact Nat.ne_of_lt (Nat.lt_of_lt_of_le (by have := World.block_lt_of_cell? _ _ hw156_1; first | rwa [add_block] at this | exact this) GW157.out) | (rw [add_block]; exact Nat.ne_of_lt (Nat.lt_of_lt_of_le (by have := World.block_lt_of_cell? _ _ hw156_1; first | rwa [add_block] at this | exact this) GW157.out)) | (show (Addr.add _ _).block ≠ _; rw [add_block]; exact Nat.ne_of_lt (Nat.lt_of_lt_of_le (by have := World.block_lt_of_cell? _ _ hw156_1; first | rwa [add_block] at this | exact this) GW157.out)) | (dsimp only; exact Nat.ne_of_lt (Nat.lt_of_lt_of_le (by have := World.block_lt_of_cell? _ _ hw156_1; first | rwa [add_block] at this | exact this) GW157.out))) _).trans (((cell_far (p := ⟨gb157, _, none⟩) (by first | exact Nat.ne_of_lt (Nat.lt_of_lt_of_le (by have := World.block_lt_of_cell? _ _ hw156_1; first | rwa [add_block] at this | exact this) GW157.out) | (rw [add_block]; exact Nat.ne_of_lt (Nat.lt_of_lt_of_le (by have := World.block_lt_of_cell? _ _ hw156_1; first | rwa [add_block] at this | exact this) GW157.out)) | (show (Addr.add _ _).block ≠ _; rw [add_block]; exact Nat.ne_of_lt (Nat.lt_of_lt_of_le (by have := World.block_lt_of_cell? _ _ hw156_1; first | rwa [add_block] at this | exact this) GW157.out)) | (dsimp only; exact Nat.ne_of_lt (Nat.lt_of_lt_of_le (by have := World.block_lt_of_cell? _ _ hw156_1; first | rwa [add_block] at this | exact this) GW157.out))) _).trans (hHeld.2.2.2.2.2.2.2.2.2.2.2.2.2))))⟩ (fun hHeld => ?_)
                  clear hK K
                  refine pure_ (i := 10) (N := some 12) (v := ?_) (a' := ?_) (bm 11 2047) rfl rfl (any_of HT_.out (by kernel_rfl)) (fun _ _ _ h => h) (Or.inl ⟨by kernel_rfl, ?_⟩) ?_ ?_
                  rotate_left
                  ·intro w'
                   go_simp
                   with_reducible rfl
                  rotate_left
                  ·exact pA
                  refine done_ (done_of HT_.out (by kernel_rfl)) ?_
                  have hnb85 := NB157_147.out
                  have hnc85 := NB147_157.out
                  have hnb86 := NB157_148.out
                  have hnc86 := NB148_157.out
                  have q87 := cf2 BK157.out
                  have q88 := cf6 BK148.out
                  try go_wp2
                  go_ret
                  exact ⟨by first | rfl | (simp [errW_none, errW_some] <;> rfl) | (simp only [← hji65]; first | rfl | (simp [errW_none, errW_some] <;> rfl)) | (simp [*, errW_none, errW_some] <;> rfl), pB⟩
                 ·rw [if_neg c78] at H
                  have c78b0 : decide (((rd_T94 l0_2 x10_4).f1) < 0) = false := decide_eq_false c78
                  clear c78
                  by_cases c89 : ((rd_T94 l0_2 x10_4).f1) ≥ a1_1
                  ·rw [if_pos c89] at H
                   have c89b0 : decide (a1_1 ≤ ((rd_T94 l0_2 x10_4).f1)) = true := decide_eq_true c89
                   clear c89
                   obtain rfl := Option.some.inj H
                   have hnb90 := NB147_148.out
                   have hnc90 := NB148_147.out
                   have q91 := cf6 BK147.out
                   try go_wp2
                   replace BK147 := am (blk_drew BK147.out)
                   replace BK148 := am (blk_drew BK148.out)
                   replace HB := am (below_drew1 HB.out)
                   have p156 : 0 ≤ (x10_4 : Int) := pD
                   have q156 : x10_4 < (l0_2.length : Int) := pD
                   obtain ⟨ad156, e156, hx156_0, hx156_1⟩ := at_T94 HR0_2.out x10_4 p156 q156
                   have hw156_1 := hx156_1
                   (try rw [← Nbq76.out] at hx156_0)
                   have hw156_0 := hx156_0
                   cases e156
                   replace hx156_0 := (HB.out.cell (World.block_lt_of_cell? w _ hx156_0)).trans hx156_0
                   replace hx156_1 := (HB.out.cell (World.block_lt_of_cell? w _ hx156_1)).trans hx156_1
                   replace p156 := eq_true p156
                   replace q156 := eq_true q156
                   refine start_ (n := 11) (S := fun w' => w'.cell? ⟨gb147, 0, none⟩ = some (.int .i64 a0_0) ∧ w'.cell? ⟨gb147, 1, none⟩ = some (.int .i64 a0_1) ∧ w'.cell? ⟨gb147, 2, none⟩ = some (.slice (some ad156) l0_2.length c0_2) ∧ w'.cell? ⟨gb147, 3, none⟩ = some (.slice (some ad155) l0_3.length c0_3) ∧ w'.cell? ⟨gb147, 4, none⟩ = some (.slice A0_4 l0_4.length c0_4) ∧ w'.cell? ⟨gb147, 5, none⟩ = some (.slice A0_5 l0_5.length c0_5) ∧ w'.cell? ⟨gb148, 0, none⟩ = some (.int .i64 a1_0) ∧ w'.cell? ⟨gb148, 1, none⟩ = some (.int .i64 a1_1) ∧ w'.cell? ⟨gb148, 2, none⟩ = some (.slice A1_2 l1_2.length c1_2) ∧ w'.cell? ⟨gb148, 3, none⟩ = some (.slice A1_3 l1_3.length c1_3) ∧ w'.cell? ⟨gb148, 4, none⟩ = some (.slice A1_4 l1_4.length c1_4) ∧ w'.cell? ⟨gb148, 5, none⟩ = some (.slice A1_5 l1_5.length c1_5) ∧ w'.cell? (ad156.add ((x10_4).toNat * 2)) = some (.bool true) ∧ w'.cell? ⟨(ad156.add ((x10_4).toNat * 2)).block, (ad156.add ((x10_4).toNat * 2)).off + 1, none⟩ = some (.int .i64 ((rd_T94 l0_2 x10_4).f1))) (ds := []) (bm 11 0) (by kernel_rfl) rfl rfl ⟨cz0 BK147.out, cz1 BK147.out, cz2 BK147.out, cz3 BK147.out, cz4 BK147.out, cz5 BK147.out, cz0 BK148.out, cz1 BK148.out, cz2 BK148.out, cz3 BK148.out, cz4 BK148.out, cz5 BK148.out, ((HB.out.cell (World.block_lt_of_cell? w _ hw156_0)).trans hw156_0), ((HB.out.cell (World.block_lt_of_cell? w _ hw156_1)).trans hw156_1)⟩ (fun hHeld => ?_); refine with_tabW minstrelref13_alone.tab15 minstrelref13_alone.bits15 (fun HT_ HW_ => ?_)
                   generalize wr.drew = w92 at BK147 BK148 HB hx156_0 hx156_1 hHeld ⊢
                   refine pure_ (i := 0) (N := some 96) (v := ?_) (a' := ?_) (bm 11 1) rfl rfl (any_of HT_.out (by kernel_rfl)) (fun _ _ _ h => h) (Or.inl ⟨by kernel_rfl, ?_⟩) ?_ ?_
                   rotate_left
                   ·intro w'
                    go_simp
                    with_reducible rfl
                   rotate_left
                   ·exact pA
                   refine pure_ (i := 2) (N := some 98) (v := ?_) (a' := ?_) (bm 11 5) rfl rfl (any_of HT_.out (by kernel_rfl)) (fun _ _ _ h => h) (Or.inl ⟨by kernel_rfl, ?_⟩) ?_ ?_
                   rotate_left
                   ·intro w'
                    go_simp
                    with_reducible rfl
                   rotate_left
                   ·exact pA
                   refine pure_ (i := 5) (N := some 101) (v := ?_) (a' := ?_) (bm 11 37) rfl rfl (any_of HT_.out (by kernel_rfl)) (fun _ _ _ h => h) (Or.inl ⟨by kernel_rfl, ?_⟩) ?_ ?_
                   rotate_left
                   ·intro w'
                    go_simp
                    with_reducible rfl
                   rotate_left
                   ·exact pA
                   refine take_ (i := 1) (N := some 97) (v := ?_) (a' := ?_) (bm 11 39) rfl rfl (take_ofW HT_.out HW_.out (by kernel_rfl)) (fun _ _ _ h => h) (Or.inl ⟨by kernel_rfl, ?_⟩) hHeld ?_ ?_
                   rotate_left
                   ·rintro w' ⟨s0, s1, s2, s3, s4, s5, s6, s7, s8, s9, s10, s11, s12, s13⟩
                    go_simp
                    with_reducible rfl
                   rotate_left
                   ·exact pA
                   refine pure_ (i := 3) (N := some 99) (v := ?_) (a' := ?_) (bm 11 47) rfl rfl (any_of HT_.out (by kernel_rfl)) (fun _ _ _ h => h) (Or.inl ⟨by kernel_rfl, ?_⟩) ?_ ?_
                   rotate_left
                   ·intro w'
                    go_simp
                    with_reducible rfl
                   rotate_left
                   ·exact pA
                   refine take_ (i := 4) (N := some 100) (v := ?_) (a' := ?_) (bm 11 63) rfl rfl (take_ofW HT_.out HW_.out (by kernel_rfl)) (fun _ _ _ h => h) (Or.inl ⟨by kernel_rfl, ?_⟩) hHeld ?_ ?_
                   rotate_left
                   ·rintro w' ⟨s0, s1, s2, s3, s4, s5, s6, s7, s8, s9, s10, s11, s12, s13⟩
                    go_simp
                    with_reducible rfl
                   rotate_left
                   ·exact pA
                   refine take_ (i := 6) (N := some 102) (v := ?_) (a' := ?_) (bm 11 127) rfl rfl (take_ofW HT_.out HW_.out (by kernel_rfl)) (fun _ _ _ h => h) (Or.inl ⟨by kernel_rfl, ?_⟩) hHeld ?_ ?_
                   rotate_left
                   ·rintro w' ⟨s0, s1, s2, s3, s4, s5, s6, s7, s8, s9, s10, s11, s12, s13⟩
                    go_simp
                    with_reducible rfl
                   rotate_left
                   ·exact pA
                   refine pure_ (i := 7) (N := some 103) (v := ?_) (a' := ?_) (bm 11 255) rfl rfl (any_of HT_.out (by kernel_rfl)) (fun _ _ _ h => h) (Or.inl ⟨by kernel_rfl, ?_⟩) ?_ ?_
                   rotate_left
                   ·intro w'
                    go_simp
                    with_reducible rfl
                   rotate_left
                   ·exact pA
                   refine one_ (i := 8) (N := some 11) (bm 11 511) rfl rfl (one_of HT_.out (by kernel_rfl)) (by decide) (fun K hK => ?_)
                   refine box_step ?hg (N := 11) ?hd (cs := #[.bool false, .int .i64 0]) (t := 94) ?hr ?_; (case hd => rfl); (case hg => rfl); (case hr => first | (go_simp; done) | (go_simp; rfl))
                   intro gb157 hg w93 hbox hb
                   have n0_ := am (pkb BK147.out hb)
                   have n1_ := am (pkb BK148.out hb)
                   have n2_ := am (below_step pB hb)
                   have n3_ := am (hbox)
                   have n4_ := am ((by rw [hg]; exact (below_size pB) : w.heap.size ≤ gb157))
                   have n5_ := am ((by rw [hg]; exact (below_size pB) : w.heap.size ≤ gb157))
                   have n6_ := am ((by rw [hg]; exact Nat.ne_of_lt (pkl BK147.out) : gb147 ≠ gb157))
                   have n7_ := am ((by rw [hg]; exact Nat.ne_of_gt (pkl BK147.out) : gb157 ≠ gb147))
                   have n8_ := am ((by rw [hg]; exact Nat.ne_of_lt (pkl BK148.out) : gb148 ≠ gb157))
                   have n9_ := am ((by rw [hg]; exact Nat.ne_of_gt (pkl BK148.out) : gb157 ≠ gb148))
                   clear BK147 BK148 HB; have BK147 := n0_; have BK148 := n1_; have HB := n2_; have BK157 := n3_; have GW157 := n4_; have GE157 := n5_; have NB147_157 := n6_; have NB157_147 := n7_; have NB148_157 := n8_; have NB157_148 := n9_; clear n0_ n1_ n2_ n3_ n4_ n5_ n6_ n7_ n8_ n9_ hb hbox hg
                   refine hK.out _ _ ⟨cz0 BK147.out, cz1 BK147.out, cz2 BK147.out, cz3 BK147.out, cz4 BK147.out, cz5 BK147.out, cz0 BK148.out, cz1 BK148.out, cz2 BK148.out, cz3 BK148.out, cz4 BK148.out, cz5 BK148.out, ((HB.out.cell (World.block_lt_of_cell? w _ hw156_0)).trans hw156_0), ((HB.out.cell (World.block_lt_of_cell? w _ hw156_1)).trans hw156_1)⟩ (fun hHeld => ?_)
                   clear hK K
                   refine norm_ (a' := ?_) ?_ ?_
                   rotate_left
                   ·show Act.put _ (some 11) _ = _
                    exact pA
                   refine one_ (i := 9) (N := none) (bm 11 1023) rfl rfl (one_of HT_.out (by kernel_rfl)) (by decide) (fun K hK => ?_)
                   have hs94 : w93.cell? ⟨gb157, 0, none⟩ = some (.bool false) := cz0 BK157.out
                   have hfs94 := blk_frozen BK157.out 0
                   have hns94_0 := NB147_157.out
                   have hns94_1 := NB148_157.out
                   have hms94_0 := NB157_147.out
                   have hms94_1 := NB157_148.out
                   have hs95 : w93.cell? ⟨gb157, 1, none⟩ = some (.int .i64 0) := cz1 BK157.out
                   have hfs95 := blk_frozen BK157.out 1
                   have hns95_0 := NB147_157.out
                   have hns95_1 := NB148_157.out
                   have hms95_0 := NB157_147.out
                   have hms95_1 := NB157_148.out
                   refine skip_ (w1 := ?_) ?hw rfl ?_ ?_; (case hw => kernel_rfl)
                   rotate_left
                   ·go_simp
                    rfl
                   refine hK.out _ _ ⟨((cell_far (p := ⟨gb157, _, none⟩) NB147_157.out _).trans (((cell_far (p := ⟨gb157, _, none⟩) NB147_157.out _).trans (hHeld.1)))), ((cell_far (p := ⟨gb157, _, none⟩) NB147_157.out _).trans (((cell_far (p := ⟨gb157, _, none⟩) NB147_157.out _).trans (hHeld.2.1)))), ((cell_far (p := ⟨gb157, _, none⟩) NB147_157.out _).trans (((cell_far (p := ⟨gb157, _, none⟩) NB147_157.out _).trans (hHeld.2.2.1)))), ((cell_far (p := ⟨gb157, _, none⟩) NB147_157.out _).trans (((cell_far (p := ⟨gb157, _, none⟩) NB147_157.out _).trans (hHeld.2.2.2.1)))), ((cell_far (p := ⟨gb157, _, none⟩) NB147_157.out _).trans (((cell_far (p := ⟨gb157, _, none⟩) NB147_157.out _).trans (hHeld.2.2.2.2.1)))), ((cell_far (p := ⟨gb157, _, none⟩) NB147_157.out _).trans (((cell_far (p := ⟨gb157, _, none⟩) NB147_157.out _).trans (hHeld.2.2.2.2.2.1)))), ((cell_far (p := ⟨gb157, _, none⟩) NB148_157.out _).trans (((cell_far (p := ⟨gb157, _, none⟩) NB148_157.out _).trans (hHeld.2.2.2.2.2.2.1)))), ((cell_far (p := ⟨gb157, _, none⟩) NB148_157.out _).trans (((cell_far (p := ⟨gb157, _, none⟩) NB148_157.out _).trans (hHeld.2.2.2.2.2.2.2.1)))), ((cell_far (p := ⟨gb157, _, none⟩) NB148_157.out _).trans (((cell_far (p := ⟨gb157, _, none⟩) NB148_157.out _).trans (hHeld.2.2.2.2.2.2.2.2.1)))), ((cell_far (p := ⟨gb157, _, none⟩) NB148_157.out _).trans (((cell_far (p := ⟨gb157, _, none⟩) NB148_157.out _).trans (hHeld.2.2.2.2.2.2.2.2.2.1)))), ((cell_far (p := ⟨gb157, _, none⟩) NB148_157.out _).trans (((cell_far (p := ⟨gb157, _, none⟩) NB148_157.out _).trans (hHeld.2.2.2.2.2.2.2.2.2.2.1)))), ((cell_far (p := ⟨gb157, _, none⟩) NB148_157.out _).trans (((cell_far (p := ⟨gb157, _, none⟩) NB148_157.out _).trans (hHeld.2.2.2.2.2.2.2.2.2.2.2.1)))), ((cell_far (p := ⟨gb157, _, none⟩) (by first | exact Nat.ne_of_lt (Nat.lt_of_lt_of_le (by have := World.block_lt_of_cell? _ _ hw156_0; first | rwa [add_block] at this | exact this) GW157.out) | (rw [add_block]; exact Nat.ne_of_lt (Nat.lt_of_lt_of_le (by have := World.block_lt_of_cell? _ _ hw156_0; first | rwa [add_block] at this | exact this) GW157.out)) | (show (Addr.add _ _).block ≠ _; rw [add_block]; exact Nat.ne_of_lt (Nat.lt_of_lt_of_le (by have := World.block_lt_of_cell? _ _ hw156_0; first | rwa [add_block] at this | exact this) GW157.out)) | (dsimp only; exact Nat.ne_of_lt (Nat.lt_of_lt_of_le (by have := World.block_lt_of_cell? _ _ hw156_0; first | rwa [add_block] at this | exact this) GW157.out))) _).trans (((cell_far (p := ⟨gb157, _, none⟩) (by first | exact Nat.ne_of_lt (Nat.lt_of_lt_of_le (by have := World.block_lt_of_cell? _ _ hw156_0; first | rwa [add_block] at this | exact this) GW157.out) | (rw [add_block]; exact Nat.ne_of_lt (Nat.lt_of_lt_of_le (by have := World.block_lt_of_cell? _ _ hw156_0; first | rwa [add_block] at this | exact this) GW157.out)) | (show (Addr.add _ _).block ≠ _; rw [add_block]; exact Nat.ne_of_lt (Nat.lt_of_lt_of_le (by have := World.block_lt_of_cell? _ _ hw156_0; first | rwa [add_block] at this | exact this) GW157.out)) | (dsimp only; exact Nat.ne_of_lt (Nat.lt_of_lt_of_le (by have := World.block_lt_of_cell? _ _ hw156_0; first | rwa [add_block] at this | exact this) GW157.out))) _).trans (hHeld.2.2.2.2.2.2.2.2.2.2.2.2.1)))), ((cell_far (p := ⟨gb157, _, none⟩) (by first | exact Nat.ne_of_lt (Nat.lt_of_lt_of_le (by have := World.block_lt_of_cell? _ _ hw156_1; first | rwa [add_block] at this | exact this) GW157.out) | (rw [add_block]; exact Nat.ne_of_lt (Nat.lt_of_lt_of_le (by have := World.block_lt_of_cell? _ _ hw156_1; first | rwa [add_block] at this | exact this) GW157.out)) | (show (Addr.add _ _).block ≠ _; rw [add_block]; exact Nat.ne_of_lt (Nat.lt_of_lt_of_le (by have := World.block_lt_of_cell? _ _ hw156_1; first | rwa [add_block] at this | exact this) GW157.out)) | (dsimp only; exact Nat.ne_of_lt (Nat.lt_of_lt_of_le (by have := World.block_lt_of_cell? _ _ hw156_1; first | rwa [add_block] at this | exact this) GW157.out))) _).trans (((cell_far (p := ⟨gb157, _, none⟩) (by first | exact Nat.ne_of_lt (Nat.lt_of_lt_of_le (by have := World.block_lt_of_cell? _ _ hw156_1; first | rwa [add_block] at this | exact this) GW157.out) | (rw [add_block]; exact Nat.ne_of_lt (Nat.lt_of_lt_of_le (by have := World.block_lt_of_cell? _ _ hw156_1; first | rwa [add_block] at this | exact this) GW157.out)) | (show (Addr.add _ _).block ≠ _; rw [add_block]; exact Nat.ne_of_lt (Nat.lt_of_lt_of_le (by have := World.block_lt_of_cell? _ _ hw156_1; first | rwa [add_block] at this | exact this) GW157.out)) | (dsimp only; exact Nat.ne_of_lt (Nat.lt_of_lt_of_le (by have := World.block_lt_of_cell? _ _ hw156_1; first | rwa [add_block] at this | exact this) GW157.out))) _).trans (hHeld.2.2.2.2.2.2.2.2.2.2.2.2.2))))⟩ (fun hHeld => ?_)
                   clear hK K
                   refine pure_ (i := 10) (N := some 12) (v := ?_) (a' := ?_) (bm 11 2047) rfl rfl (any_of HT_.out (by kernel_rfl)) (fun _ _ _ h => h) (Or.inl ⟨by kernel_rfl, ?_⟩) ?_ ?_
                   rotate_left
                   ·intro w'
                    go_simp
                    with_reducible rfl
                   rotate_left
                   ·exact pA
                   refine done_ (done_of HT_.out (by kernel_rfl)) ?_
                   have hnb96 := NB157_147.out
                   have hnc96 := NB147_157.out
                   have hnb97 := NB157_148.out
                   have hnc97 := NB148_157.out
                   have q98 := cf2 BK157.out
                   have q99 := cf6 BK148.out
                   try go_wp2
                   go_ret
                   exact ⟨by first | rfl | (simp [errW_none, errW_some] <;> rfl) | (simp only [← hji65]; first | rfl | (simp [errW_none, errW_some] <;> rfl)) | (simp [*, errW_none, errW_some] <;> rfl), pB⟩
                  ·rw [if_neg c89] at H
                   have c89b0 : decide (a1_1 ≤ ((rd_T94 l0_2 x10_4).f1)) = false := decide_eq_false c89
                   clear c89
                   have H' := am H
                   clear H
                   have hnb100 := NB147_148.out
                   have hnc100 := NB148_147.out
                   have q101 := cf6 BK147.out
                   try go_wp2
                   replace BK147 := am (blk_drew BK147.out)
                   replace BK148 := am (blk_drew BK148.out)
                   replace HB := am (below_drew1 HB.out)
                   have p156 : 0 ≤ (x10_4 : Int) := pD
                   have q156 : x10_4 < (l0_2.length : Int) := pD
                   obtain ⟨ad156, e156, hx156_0, hx156_1⟩ := at_T94 HR0_2.out x10_4 p156 q156
                   have hw156_1 := hx156_1
                   (try rw [← Nbq76.out] at hx156_0)
                   have hw156_0 := hx156_0
                   cases e156
                   replace hx156_0 := (HB.out.cell (World.block_lt_of_cell? w _ hx156_0)).trans hx156_0
                   replace hx156_1 := (HB.out.cell (World.block_lt_of_cell? w _ hx156_1)).trans hx156_1
                   replace p156 := eq_true p156
                   replace q156 := eq_true q156
                   refine start_ (n := 11) (S := fun w' => w'.cell? ⟨gb147, 0, none⟩ = some (.int .i64 a0_0) ∧ w'.cell? ⟨gb147, 1, none⟩ = some (.int .i64 a0_1) ∧ w'.cell? ⟨gb147, 2, none⟩ = some (.slice (some ad156) l0_2.length c0_2) ∧ w'.cell? ⟨gb147, 3, none⟩ = some (.slice (some ad155) l0_3.length c0_3) ∧ w'.cell? ⟨gb147, 4, none⟩ = some (.slice A0_4 l0_4.length c0_4) ∧ w'.cell? ⟨gb147, 5, none⟩ = some (.slice A0_5 l0_5.length c0_5) ∧ w'.cell? ⟨gb148, 0, none⟩ = some (.int .i64 a1_0) ∧ w'.cell? ⟨gb148, 1, none⟩ = some (.int .i64 a1_1) ∧ w'.cell? ⟨gb148, 2, none⟩ = some (.slice A1_2 l1_2.length c1_2) ∧ w'.cell? ⟨gb148, 3, none⟩ = some (.slice A1_3 l1_3.length c1_3) ∧ w'.cell? ⟨gb148, 4, none⟩ = some (.slice A1_4 l1_4.length c1_4) ∧ w'.cell? ⟨gb148, 5, none⟩ = some (.slice A1_5 l1_5.length c1_5) ∧ w'.cell? (ad156.add ((x10_4).toNat * 2)) = some (.bool true) ∧ w'.cell? ⟨(ad156.add ((x10_4).toNat * 2)).block, (ad156.add ((x10_4).toNat * 2)).off + 1, none⟩ = some (.int .i64 ((rd_T94 l0_2 x10_4).f1))) (ds := []) (bm 11 0) (by kernel_rfl) rfl rfl ⟨cz0 BK147.out, cz1 BK147.out, cz2 BK147.out, cz3 BK147.out, cz4 BK147.out, cz5 BK147.out, cz0 BK148.out, cz1 BK148.out, cz2 BK148.out, cz3 BK148.out, cz4 BK148.out, cz5 BK148.out, ((HB.out.cell (World.block_lt_of_cell? w _ hw156_0)).trans hw156_0), ((HB.out.cell (World.block_lt_of_cell? w _ hw156_1)).trans hw156_1)⟩ (fun hHeld => ?_); refine with_tabW minstrelref13_alone.tab15 minstrelref13_alone.bits15 (fun HT_ HW_ => ?_)
                   generalize wr.drew = w102 at BK147 BK148 HB hx156_0 hx156_1 hHeld ⊢
                   refine pure_ (i := 0) (N := some 96) (v := ?_) (a' := ?_) (bm 11 1) rfl rfl (any_of HT_.out (by kernel_rfl)) (fun _ _ _ h => h) (Or.inl ⟨by kernel_rfl, ?_⟩) ?_ ?_
                   rotate_left
                   ·intro w'
                    go_simp
                    with_reducible rfl
                   rotate_left
                   ·exact pA
                   refine pure_ (i := 2) (N := some 98) (v := ?_) (a' := ?_) (bm 11 5) rfl rfl (any_of HT_.out (by kernel_rfl)) (fun _ _ _ h => h) (Or.inl ⟨by kernel_rfl, ?_⟩) ?_ ?_
                   rotate_left
                   ·intro w'
                    go_simp
                    with_reducible rfl
                   rotate_left
                   ·exact pA
                   refine pure_ (i := 5) (N := some 101) (v := ?_) (a' := ?_) (bm 11 37) rfl rfl (any_of HT_.out (by kernel_rfl)) (fun _ _ _ h => h) (Or.inl ⟨by kernel_rfl, ?_⟩) ?_ ?_
                   rotate_left
                   ·intro w'
                    go_simp
                    with_reducible rfl
                   rotate_left
                   ·exact pA
                   refine take_ (i := 1) (N := some 97) (v := ?_) (a' := ?_) (bm 11 39) rfl rfl (take_ofW HT_.out HW_.out (by kernel_rfl)) (fun _ _ _ h => h) (Or.inl ⟨by kernel_rfl, ?_⟩) hHeld ?_ ?_
                   rotate_left
                   ·rintro w' ⟨s0, s1, s2, s3, s4, s5, s6, s7, s8, s9, s10, s11, s12, s13⟩
                    go_simp
                    with_reducible rfl
                   rotate_left
                   ·exact pA
                   refine pure_ (i := 3) (N := some 99) (v := ?_) (a' := ?_) (bm 11 47) rfl rfl (any_of HT_.out (by kernel_rfl)) (fun _ _ _ h => h) (Or.inl ⟨by kernel_rfl, ?_⟩) ?_ ?_
                   rotate_left
                   ·intro w'
                    go_simp
                    with_reducible rfl
                   rotate_left
                   ·exact pA
                   refine take_ (i := 4) (N := some 100) (v := ?_) (a' := ?_) (bm 11 63) rfl rfl (take_ofW HT_.out HW_.out (by kernel_rfl)) (fun _ _ _ h => h) (Or.inl ⟨by kernel_rfl, ?_⟩) hHeld ?_ ?_
                   rotate_left
                   ·rintro w' ⟨s0, s1, s2, s3, s4, s5, s6, s7, s8, s9, s10, s11, s12, s13⟩
                    go_simp
                    with_reducible rfl
                   rotate_left
                   ·exact pA
                   refine take_ (i := 6) (N := some 102) (v := ?_) (a' := ?_) (bm 11 127) rfl rfl (take_ofW HT_.out HW_.out (by kernel_rfl)) (fun _ _ _ h => h) (Or.inl ⟨by kernel_rfl, ?_⟩) hHeld ?_ ?_
                   rotate_left
                   ·rintro w' ⟨s0, s1, s2, s3, s4, s5, s6, s7, s8, s9, s10, s11, s12, s13⟩
                    go_simp
                    with_reducible rfl
                   rotate_left
                   ·exact pA
                   refine pure_ (i := 7) (N := some 103) (v := ?_) (a' := ?_) (bm 11 255) rfl rfl (any_of HT_.out (by kernel_rfl)) (fun _ _ _ h => h) (Or.inl ⟨by kernel_rfl, ?_⟩) ?_ ?_
                   rotate_left
                   ·intro w'
                    go_simp
                    with_reducible rfl
                   rotate_left
                   ·exact pA
                   refine one_ (i := 8) (N := some 11) (bm 11 511) rfl rfl (one_of HT_.out (by kernel_rfl)) (by decide) (fun K hK => ?_)
                   refine box_step ?hg (N := 11) ?hd (cs := #[.bool false, .int .i64 0]) (t := 94) ?hr ?_; (case hd => rfl); (case hg => rfl); (case hr => first | (go_simp; done) | (go_simp; rfl))
                   intro gb157 hg w103 hbox hb
                   have n0_ := am (pkb BK147.out hb)
                   have n1_ := am (pkb BK148.out hb)
                   have n2_ := am (below_step pB hb)
                   have n3_ := am (hbox)
                   have n4_ := am ((by rw [hg]; exact (below_size pB) : w.heap.size ≤ gb157))
                   have n5_ := am ((by rw [hg]; exact (below_size pB) : w.heap.size ≤ gb157))
                   have n6_ := am ((by rw [hg]; exact Nat.ne_of_lt (pkl BK147.out) : gb147 ≠ gb157))
                   have n7_ := am ((by rw [hg]; exact Nat.ne_of_gt (pkl BK147.out) : gb157 ≠ gb147))
                   have n8_ := am ((by rw [hg]; exact Nat.ne_of_lt (pkl BK148.out) : gb148 ≠ gb157))
                   have n9_ := am ((by rw [hg]; exact Nat.ne_of_gt (pkl BK148.out) : gb157 ≠ gb148))
                   clear BK147 BK148 HB; have BK147 := n0_; have BK148 := n1_; have HB := n2_; have BK157 := n3_; have GW157 := n4_; have GE157 := n5_; have NB147_157 := n6_; have NB157_147 := n7_; have NB148_157 := n8_; have NB157_148 := n9_; clear n0_ n1_ n2_ n3_ n4_ n5_ n6_ n7_ n8_ n9_ hb hbox hg
                   refine hK.out _ _ ⟨cz0 BK147.out, cz1 BK147.out, cz2 BK147.out, cz3 BK147.out, cz4 BK147.out, cz5 BK147.out, cz0 BK148.out, cz1 BK148.out, cz2 BK148.out, cz3 BK148.out, cz4 BK148.out, cz5 BK148.out, ((HB.out.cell (World.block_lt_of_cell? w _ hw156_0)).trans hw156_0), ((HB.out.cell (World.block_lt_of_cell? w _ hw156_1)).trans hw156_1)⟩ (fun hHeld => ?_)
                   clear hK K
                   refine norm_ (a' := ?_) ?_ ?_
                   rotate_left
                   ·show Act.put _ (some 11) _ = _
                    exact pA
                   refine one_ (i := 9) (N := none) (bm 11 1023) rfl rfl (one_of HT_.out (by kernel_rfl)) (by decide) (fun K hK => ?_)
                   have hs104 : w103.cell? ⟨gb157, 0, none⟩ = some (.bool false) := cz0 BK157.out
                   have hfs104 := blk_frozen BK157.out 0
                   have hns104_0 := NB147_157.out
                   have hns104_1 := NB148_157.out
                   have hms104_0 := NB157_147.out
                   have hms104_1 := NB157_148.out
                   have hs105 : w103.cell? ⟨gb157, 1, none⟩ = some (.int .i64 0) := cz1 BK157.out
                   have hfs105 := blk_frozen BK157.out 1
                   have hns105_0 := NB147_157.out
                   have hns105_1 := NB148_157.out
                   have hms105_0 := NB157_147.out
                   have hms105_1 := NB157_148.out
                   refine skip_ (w1 := ?_) ?hw rfl ?_ ?_; (case hw => kernel_rfl)
                   rotate_left
                   ·go_simp
                    rfl
                   refine hK.out _ _ ⟨((cell_far (p := ⟨gb157, _, none⟩) NB147_157.out _).trans (((cell_far (p := ⟨gb157, _, none⟩) NB147_157.out _).trans (hHeld.1)))), ((cell_far (p := ⟨gb157, _, none⟩) NB147_157.out _).trans (((cell_far (p := ⟨gb157, _, none⟩) NB147_157.out _).trans (hHeld.2.1)))), ((cell_far (p := ⟨gb157, _, none⟩) NB147_157.out _).trans (((cell_far (p := ⟨gb157, _, none⟩) NB147_157.out _).trans (hHeld.2.2.1)))), ((cell_far (p := ⟨gb157, _, none⟩) NB147_157.out _).trans (((cell_far (p := ⟨gb157, _, none⟩) NB147_157.out _).trans (hHeld.2.2.2.1)))), ((cell_far (p := ⟨gb157, _, none⟩) NB147_157.out _).trans (((cell_far (p := ⟨gb157, _, none⟩) NB147_157.out _).trans (hHeld.2.2.2.2.1)))), ((cell_far (p := ⟨gb157, _, none⟩) NB147_157.out _).trans (((cell_far (p := ⟨gb157, _, none⟩) NB147_157.out _).trans (hHeld.2.2.2.2.2.1)))), ((cell_far (p := ⟨gb157, _, none⟩) NB148_157.out _).trans (((cell_far (p := ⟨gb157, _, none⟩) NB148_157.out _).trans (hHeld.2.2.2.2.2.2.1)))), ((cell_far (p := ⟨gb157, _, none⟩) NB148_157.out _).trans (((cell_far (p := ⟨gb157, _, none⟩) NB148_157.out _).trans (hHeld.2.2.2.2.2.2.2.1)))), ((cell_far (p := ⟨gb157, _, none⟩) NB148_157.out _).trans (((cell_far (p := ⟨gb157, _, none⟩) NB148_157.out _).trans (hHeld.2.2.2.2.2.2.2.2.1)))), ((cell_far (p := ⟨gb157, _, none⟩) NB148_157.out _).trans (((cell_far (p := ⟨gb157, _, none⟩) NB148_157.out _).trans (hHeld.2.2.2.2.2.2.2.2.2.1)))), ((cell_far (p := ⟨gb157, _, none⟩) NB148_157.out _).trans (((cell_far (p := ⟨gb157, _, none⟩) NB148_157.out _).trans (hHeld.2.2.2.2.2.2.2.2.2.2.1)))), ((cell_far (p := ⟨gb157, _, none⟩) NB148_157.out _).trans (((cell_far (p := ⟨gb157, _, none⟩) NB148_157.out _).trans (hHeld.2.2.2.2.2.2.2.2.2.2.2.1)))), ((cell_far (p := ⟨gb157, _, none⟩) (by first | exact Nat.ne_of_lt (Nat.lt_of_lt_of_le (by have := World.block_lt_of_cell? _ _ hw156_0; first | rwa [add_block] at this | exact this) GW157.out) | (rw [add_block]; exact Nat.ne_of_lt (Nat.lt_of_lt_of_le (by have := World.block_lt_of_cell? _ _ hw156_0; first | rwa [add_block] at this | exact this) GW157.out)) | (show (Addr.add _ _).block ≠ _; rw [add_block]; exact Nat.ne_of_lt (Nat.lt_of_lt_of_le (by have := World.block_lt_of_cell? _ _ hw156_0; first | rwa [add_block] at this | exact this) GW157.out)) | (dsimp only; exact Nat.ne_of_lt (Nat.lt_of_lt_of_le (by have := World.block_lt_of_cell? _ _ hw156_0; first | rwa [add_block] at this | exact this) GW157.out))) _).trans (((cell_far (p := ⟨gb157, _, none⟩) (by first | exact Nat.ne_of_lt (Nat.lt_of_lt_of_le (by have := World.block_lt_of_cell? _ _ hw156_0; first | rwa [add_block] at this | exact this) GW157.out) | (rw [add_block]; exact Nat.ne_of_lt (Nat.lt_of_lt_of_le (by have := World.block_lt_of_cell? _ _ hw156_0; first | rwa [add_block] at this | exact this) GW157.out)) | (show (Addr.add _ _).block ≠ _; rw [add_block]; exact Nat.ne_of_lt (Nat.lt_of_lt_of_le (by have := World.block_lt_of_cell? _ _ hw156_0; first | rwa [add_block] at this | exact this) GW157.out)) | (dsimp only; exact Nat.ne_of_lt (Nat.lt_of_lt_of_le (by have := World.block_lt_of_cell? _ _ hw156_0; first | rwa [add_block] at this | exact this) GW157.out))) _).trans (hHeld.2.2.2.2.2.2.2.2.2.2.2.2.1)))), ((cell_far (p := ⟨gb157, _, none⟩) (by first | exact Nat.ne_of_lt (Nat.lt_of_lt_of_le (by have := World.block_lt_of_cell? _ _ hw156_1; first | rwa [add_block] at this | exact this) GW157.out) | (rw [add_block]; exact Nat.ne_of_lt (Nat.lt_of_lt_of_le (by have := World.block_lt_of_cell? _ _ hw156_1; first | rwa [add_block] at this | exact this) GW157.out)) | (show (Addr.add _ _).block ≠ _; rw [add_block]; exact Nat.ne_of_lt (Nat.lt_of_lt_of_le (by have := World.block_lt_of_cell? _ _ hw156_1; first | rwa [add_block] at this | exact this) GW157.out)) | (dsimp only; exact Nat.ne_of_lt (Nat.lt_of_lt_of_le (by have := World.block_lt_of_cell? _ _ hw156_1; first | rwa [add_block] at this | exact this) GW157.out))) _).trans (((cell_far (p := ⟨gb157, _, none⟩) (by first | exact Nat.ne_of_lt (Nat.lt_of_lt_of_le (by have := World.block_lt_of_cell? _ _ hw156_1; first | rwa [add_block] at this | exact this) GW157.out) | (rw [add_block]; exact Nat.ne_of_lt (Nat.lt_of_lt_of_le (by have := World.block_lt_of_cell? _ _ hw156_1; first | rwa [add_block] at this | exact this) GW157.out)) | (show (Addr.add _ _).block ≠ _; rw [add_block]; exact Nat.ne_of_lt (Nat.lt_of_lt_of_le (by have := World.block_lt_of_cell? _ _ hw156_1; first | rwa [add_block] at this | exact this) GW157.out)) | (dsimp only; exact Nat.ne_of_lt (Nat.lt_of_lt_of_le (by have := World.block_lt_of_cell? _ _ hw156_1; first | rwa [add_block] at this | exact this) GW157.out))) _).trans (hHeld.2.2.2.2.2.2.2.2.2.2.2.2.2))))⟩ (fun hHeld => ?_)
                   clear hK K
                   refine pure_ (i := 10) (N := some 12) (v := ?_) (a' := ?_) (bm 11 2047) rfl rfl (any_of HT_.out (by kernel_rfl)) (fun _ _ _ h => h) (Or.inl ⟨by kernel_rfl, ?_⟩) ?_ ?_
                   rotate_left
                   ·intro w'
                    go_simp
                    with_reducible rfl
                   rotate_left
                   ·exact pA
                   refine done_ (done_of HT_.out (by kernel_rfl)) ?_
                   have hnb106 := NB157_147.out
                   have hnc106 := NB147_157.out
                   have hnb107 := NB157_148.out
                   have hnc107 := NB148_157.out
                   have q108 := cf2 BK157.out
                   have q109 := cf6 BK148.out
                   try go_wp2
                   go_roundg k4
                   case measure => have := HJ3.out; have := HK2.out; have := HJ67.out; have := HK4.out; omega
                   case rel => exact ⟨(wrap64 (x10_4 + 1)), (by first | rfl | (simp; done) | (simp [*]; done)), H', ⟨by have := HJ3.out; have := HK2.out; have := HJ67.out; have := HK4.out; omega⟩, ⟨by (with_reducible repeat (first | refine blk_drewN ?_ _ | refine blk_drew ?_ | refine blk_alloc ?_ _)); refine blk_far ?_ NB147_157.out _; (with_reducible repeat (first | refine blk_drewN ?_ _ | refine blk_drew ?_ | refine blk_alloc ?_ _)); refine blk_far ?_ NB147_157.out _; (with_reducible repeat (first | refine blk_drewN ?_ _ | refine blk_drew ?_ | refine blk_alloc ?_ _)); exact BK147.out⟩, ⟨by (with_reducible repeat (first | refine blk_drewN ?_ _ | refine blk_drew ?_ | refine blk_alloc ?_ _)); refine blk_far ?_ NB148_157.out _; (with_reducible repeat (first | refine blk_drewN ?_ _ | refine blk_drew ?_ | refine blk_alloc ?_ _)); refine blk_far ?_ NB148_157.out _; (with_reducible repeat (first | refine blk_drewN ?_ _ | refine blk_drew ?_ | refine blk_alloc ?_ _)); exact BK148.out⟩, ⟨pB⟩⟩
                ·replace c77 := Bool.eq_false_iff.mpr c77
                 subst c77
                 rw [if_neg (show ¬ (false = true) by decide)] at H
                 by_cases c110 : ((rd_T94 l0_2 x10_4).f1) < 0
                 ·rw [if_pos c110] at H
                  have c110b0 : decide (((rd_T94 l0_2 x10_4).f1) < 0) = true := decide_eq_true c110
                  clear c110
                  obtain rfl := Option.some.inj H
                  have hnb111 := NB147_148.out
                  have hnc111 := NB148_147.out
                  have q112 := cf6 BK147.out
                  try go_wp2
                  replace BK147 := am (blk_drew BK147.out)
                  replace BK148 := am (blk_drew BK148.out)
                  replace HB := am (below_drew1 HB.out)
                  have p156 : 0 ≤ (x10_4 : Int) := pD
                  have q156 : x10_4 < (l0_2.length : Int) := pD
                  obtain ⟨ad156, e156, hx156_0, hx156_1⟩ := at_T94 HR0_2.out x10_4 p156 q156
                  have hw156_1 := hx156_1
                  (try rw [← Nbq76.out] at hx156_0)
                  have hw156_0 := hx156_0
                  cases e156
                  replace hx156_0 := (HB.out.cell (World.block_lt_of_cell? w _ hx156_0)).trans hx156_0
                  replace hx156_1 := (HB.out.cell (World.block_lt_of_cell? w _ hx156_1)).trans hx156_1
                  replace p156 := eq_true p156
                  replace q156 := eq_true q156
                  refine start_ (n := 11) (S := fun w' => w'.cell? ⟨gb147, 0, none⟩ = some (.int .i64 a0_0) ∧ w'.cell? ⟨gb147, 1, none⟩ = some (.int .i64 a0_1) ∧ w'.cell? ⟨gb147, 2, none⟩ = some (.slice (some ad156) l0_2.length c0_2) ∧ w'.cell? ⟨gb147, 3, none⟩ = some (.slice (some ad155) l0_3.length c0_3) ∧ w'.cell? ⟨gb147, 4, none⟩ = some (.slice A0_4 l0_4.length c0_4) ∧ w'.cell? ⟨gb147, 5, none⟩ = some (.slice A0_5 l0_5.length c0_5) ∧ w'.cell? ⟨gb148, 0, none⟩ = some (.int .i64 a1_0) ∧ w'.cell? ⟨gb148, 1, none⟩ = some (.int .i64 a1_1) ∧ w'.cell? ⟨gb148, 2, none⟩ = some (.slice A1_2 l1_2.length c1_2) ∧ w'.cell? ⟨gb148, 3, none⟩ = some (.slice A1_3 l1_3.length c1_3) ∧ w'.cell? ⟨gb148, 4, none⟩ = some (.slice A1_4 l1_4.length c1_4) ∧ w'.cell? ⟨gb148, 5, none⟩ = some (.slice A1_5 l1_5.length c1_5) ∧ w'.cell? (ad156.add ((x10_4).toNat * 2)) = some (.bool false) ∧ w'.cell? ⟨(ad156.add ((x10_4).toNat * 2)).block, (ad156.add ((x10_4).toNat * 2)).off + 1, none⟩ = some (.int .i64 ((rd_T94 l0_2 x10_4).f1))) (ds := []) (bm 11 0) (by kernel_rfl) rfl rfl ⟨cz0 BK147.out, cz1 BK147.out, cz2 BK147.out, cz3 BK147.out, cz4 BK147.out, cz5 BK147.out, cz0 BK148.out, cz1 BK148.out, cz2 BK148.out, cz3 BK148.out, cz4 BK148.out, cz5 BK148.out, ((HB.out.cell (World.block_lt_of_cell? w _ hw156_0)).trans hw156_0), ((HB.out.cell (World.block_lt_of_cell? w _ hw156_1)).trans hw156_1)⟩ (fun hHeld => ?_); refine with_tabW minstrelref13_alone.tab15 minstrelref13_alone.bits15 (fun HT_ HW_ => ?_)
                  generalize wr.drew = w113 at BK147 BK148 HB hx156_0 hx156_1 hHeld ⊢
                  refine pure_ (i := 0) (N := some 96) (v := ?_) (a' := ?_) (bm 11 1) rfl rfl (any_of HT_.out (by kernel_rfl)) (fun _ _ _ h => h) (Or.inl ⟨by kernel_rfl, ?_⟩) ?_ ?_
                  rotate_left
                  ·intro w'
                   go_simp
                   with_reducible rfl
                  rotate_left
                  ·exact pA
                  refine pure_ (i := 2) (N := some 98) (v := ?_) (a' := ?_) (bm 11 5) rfl rfl (any_of HT_.out (by kernel_rfl)) (fun _ _ _ h => h) (Or.inl ⟨by kernel_rfl, ?_⟩) ?_ ?_
                  rotate_left
                  ·intro w'
                   go_simp
                   with_reducible rfl
                  rotate_left
                  ·exact pA
                  refine pure_ (i := 5) (N := some 101) (v := ?_) (a' := ?_) (bm 11 37) rfl rfl (any_of HT_.out (by kernel_rfl)) (fun _ _ _ h => h) (Or.inl ⟨by kernel_rfl, ?_⟩) ?_ ?_
                  rotate_left
                  ·intro w'
                   go_simp
                   with_reducible rfl
                  rotate_left
                  ·exact pA
                  refine take_ (i := 1) (N := some 97) (v := ?_) (a' := ?_) (bm 11 39) rfl rfl (take_ofW HT_.out HW_.out (by kernel_rfl)) (fun _ _ _ h => h) (Or.inl ⟨by kernel_rfl, ?_⟩) hHeld ?_ ?_
                  rotate_left
                  ·rintro w' ⟨s0, s1, s2, s3, s4, s5, s6, s7, s8, s9, s10, s11, s12, s13⟩
                   go_simp
                   with_reducible rfl
                  rotate_left
                  ·exact pA
                  refine pure_ (i := 3) (N := some 99) (v := ?_) (a' := ?_) (bm 11 47) rfl rfl (any_of HT_.out (by kernel_rfl)) (fun _ _ _ h => h) (Or.inl ⟨by kernel_rfl, ?_⟩) ?_ ?_
                  rotate_left
                  ·intro w'
                   go_simp
                   with_reducible rfl
                  rotate_left
                  ·exact pA
                  refine take_ (i := 4) (N := some 100) (v := ?_) (a' := ?_) (bm 11 63) rfl rfl (take_ofW HT_.out HW_.out (by kernel_rfl)) (fun _ _ _ h => h) (Or.inl ⟨by kernel_rfl, ?_⟩) hHeld ?_ ?_
                  rotate_left
                  ·rintro w' ⟨s0, s1, s2, s3, s4, s5, s6, s7, s8, s9, s10, s11, s12, s13⟩
                   go_simp
                   with_reducible rfl
                  rotate_left
                  ·exact pA
                  refine take_ (i := 6) (N := some 102) (v := ?_) (a' := ?_) (bm 11 127) rfl rfl (take_ofW HT_.out HW_.out (by kernel_rfl)) (fun _ _ _ h => h) (Or.inl ⟨by kernel_rfl, ?_⟩) hHeld ?_ ?_
                  rotate_left
                  ·rintro w' ⟨s0, s1, s2, s3, s4, s5, s6, s7, s8, s9, s10, s11, s12, s13⟩
                   go_simp
                   with_reducible rfl
                  rotate_left
                  ·exact pA
                  refine pure_ (i := 7) (N := some 103) (v := ?_) (a' := ?_) (bm 11 255) rfl rfl (any_of HT_.out (by kernel_rfl)) (fun _ _ _ h => h) (Or.inl ⟨by kernel_rfl, ?_⟩) ?_ ?_
                  rotate_left
                  ·intro w'
                   go_simp
                   with_reducible rfl
                  rotate_left
                  ·exact pA
                  refine one_ (i := 8) (N := some 11) (bm 11 511) rfl rfl (one_of HT_.out (by kernel_rfl)) (by decide) (fun K hK => ?_)
                  refine box_step ?hg (N := 11) ?hd (cs := #[.bool false, .int .i64 0]) (t := 94) ?hr ?_; (case hd => rfl); (case hg => rfl); (case hr => first | (go_simp; done) | (go_simp; rfl))
                  intro gb157 hg w114 hbox hb
                  have n0_ := am (pkb BK147.out hb)
                  have n1_ := am (pkb BK148.out hb)
                  have n2_ := am (below_step pB hb)
                  have n3_ := am (hbox)
                  have n4_ := am ((by rw [hg]; exact (below_size pB) : w.heap.size ≤ gb157))
                  have n5_ := am ((by rw [hg]; exact (below_size pB) : w.heap.size ≤ gb157))
                  have n6_ := am ((by rw [hg]; exact Nat.ne_of_lt (pkl BK147.out) : gb147 ≠ gb157))
                  have n7_ := am ((by rw [hg]; exact Nat.ne_of_gt (pkl BK147.out) : gb157 ≠ gb147))
                  have n8_ := am ((by rw [hg]; exact Nat.ne_of_lt (pkl BK148.out) : gb148 ≠ gb157))
                  have n9_ := am ((by rw [hg]; exact Nat.ne_of_gt (pkl BK148.out) : gb157 ≠ gb148))
                  clear BK147 BK148 HB; have BK147 := n0_; have BK148 := n1_; have HB := n2_; have BK157 := n3_; have GW157 := n4_; have GE157 := n5_; have NB147_157 := n6_; have NB157_147 := n7_; have NB148_157 := n8_; have NB157_148 := n9_; clear n0_ n1_ n2_ n3_ n4_ n5_ n6_ n7_ n8_ n9_ hb hbox hg
                  refine hK.out _ _ ⟨cz0 BK147.out, cz1 BK147.out, cz2 BK147.out, cz3 BK147.out, cz4 BK147.out, cz5 BK147.out, cz0 BK148.out, cz1 BK148.out, cz2 BK148.out, cz3 BK148.out, cz4 BK148.out, cz5 BK148.out, ((HB.out.cell (World.block_lt_of_cell? w _ hw156_0)).trans hw156_0), ((HB.out.cell (World.block_lt_of_cell? w _ hw156_1)).trans hw156_1)⟩ (fun hHeld => ?_)
                  clear hK K
                  refine norm_ (a' := ?_) ?_ ?_
                  rotate_left
                  ·show Act.put _ (some 11) _ = _
                   exact pA
                  refine one_ (i := 9) (N := none) (bm 11 1023) rfl rfl (one_of HT_.out (by kernel_rfl)) (by decide) (fun K hK => ?_)
                  have hs115 : w114.cell? ⟨gb157, 0, none⟩ = some (.bool false) := cz0 BK157.out
                  have hfs115 := blk_frozen BK157.out 0
                  have hns115_0 := NB147_157.out
                  have hns115_1 := NB148_157.out
                  have hms115_0 := NB157_147.out
                  have hms115_1 := NB157_148.out
                  have hs116 : w114.cell? ⟨gb157, 1, none⟩ = some (.int .i64 0) := cz1 BK157.out
                  have hfs116 := blk_frozen BK157.out 1
                  have hns116_0 := NB147_157.out
                  have hns116_1 := NB148_157.out
                  have hms116_0 := NB157_147.out
                  have hms116_1 := NB157_148.out
                  refine skip_ (w1 := ?_) ?hw rfl ?_ ?_; (case hw => kernel_rfl)
                  rotate_left
                  ·go_simp
                   rfl
                  refine hK.out _ _ ⟨((cell_far (p := ⟨gb157, _, none⟩) NB147_157.out _).trans (((cell_far (p := ⟨gb157, _, none⟩) NB147_157.out _).trans (hHeld.1)))), ((cell_far (p := ⟨gb157, _, none⟩) NB147_157.out _).trans (((cell_far (p := ⟨gb157, _, none⟩) NB147_157.out _).trans (hHeld.2.1)))), ((cell_far (p := ⟨gb157, _, none⟩) NB147_157.out _).trans (((cell_far (p := ⟨gb157, _, none⟩) NB147_157.out _).trans (hHeld.2.2.1)))), ((cell_far (p := ⟨gb157, _, none⟩) NB147_157.out _).trans (((cell_far (p := ⟨gb157, _, none⟩) NB147_157.out _).trans (hHeld.2.2.2.1)))), ((cell_far (p := ⟨gb157, _, none⟩) NB147_157.out _).trans (((cell_far (p := ⟨gb157, _, none⟩) NB147_157.out _).trans (hHeld.2.2.2.2.1)))), ((cell_far (p := ⟨gb157, _, none⟩) NB147_157.out _).trans (((cell_far (p := ⟨gb157, _, none⟩) NB147_157.out _).trans (hHeld.2.2.2.2.2.1)))), ((cell_far (p := ⟨gb157, _, none⟩) NB148_157.out _).trans (((cell_far (p := ⟨gb157, _, none⟩) NB148_157.out _).trans (hHeld.2.2.2.2.2.2.1)))), ((cell_far (p := ⟨gb157, _, none⟩) NB148_157.out _).trans (((cell_far (p := ⟨gb157, _, none⟩) NB148_157.out _).trans (hHeld.2.2.2.2.2.2.2.1)))), ((cell_far (p := ⟨gb157, _, none⟩) NB148_157.out _).trans (((cell_far (p := ⟨gb157, _, none⟩) NB148_157.out _).trans (hHeld.2.2.2.2.2.2.2.2.1)))), ((cell_far (p := ⟨gb157, _, none⟩) NB148_157.out _).trans (((cell_far (p := ⟨gb157, _, none⟩) NB148_157.out _).trans (hHeld.2.2.2.2.2.2.2.2.2.1)))), ((cell_far (p := ⟨gb157, _, none⟩) NB148_157.out _).trans (((cell_far (p := ⟨gb157, _, none⟩) NB148_157.out _).trans (hHeld.2.2.2.2.2.2.2.2.2.2.1)))), ((cell_far (p := ⟨gb157, _, none⟩) NB148_157.out _).trans (((cell_far (p := ⟨gb157, _, none⟩) NB148_157.out _).trans (hHeld.2.2.2.2.2.2.2.2.2.2.2.1)))), ((cell_far (p := ⟨gb157, _, none⟩) (by first | exact Nat.ne_of_lt (Nat.lt_of_lt_of_le (by have := World.block_lt_of_cell? _ _ hw156_0; first | rwa [add_block] at this | exact this) GW157.out) | (rw [add_block]; exact Nat.ne_of_lt (Nat.lt_of_lt_of_le (by have := World.block_lt_of_cell? _ _ hw156_0; first | rwa [add_block] at this | exact this) GW157.out)) | (show (Addr.add _ _).block ≠ _; rw [add_block]; exact Nat.ne_of_lt (Nat.lt_of_lt_of_le (by have := World.block_lt_of_cell? _ _ hw156_0; first | rwa [add_block] at this | exact this) GW157.out)) | (dsimp only; exact Nat.ne_of_lt (Nat.lt_of_lt_of_le (by have := World.block_lt_of_cell? _ _ hw156_0; first | rwa [add_block] at this | exact this) GW157.out))) _).trans (((cell_far (p := ⟨gb157, _, none⟩) (by first | exact Nat.ne_of_lt (Nat.lt_of_lt_of_le (by have := World.block_lt_of_cell? _ _ hw156_0; first | rwa [add_block] at this | exact this) GW157.out) | (rw [add_block]; exact Nat.ne_of_lt (Nat.lt_of_lt_of_le (by have := World.block_lt_of_cell? _ _ hw156_0; first | rwa [add_block] at this | exact this) GW157.out)) | (show (Addr.add _ _).block ≠ _; rw [add_block]; exact Nat.ne_of_lt (Nat.lt_of_lt_of_le (by have := World.block_lt_of_cell? _ _ hw156_0; first | rwa [add_block] at this | exact this) GW157.out)) | (dsimp only; exact Nat.ne_of_lt (Nat.lt_of_lt_of_le (by have := World.block_lt_of_cell? _ _ hw156_0; first | rwa [add_block] at this | exact this) GW157.out))) _).trans (hHeld.2.2.2.2.2.2.2.2.2.2.2.2.1)))), ((cell_far (p := ⟨gb157, _, none⟩) (by first | exact Nat.ne_of_lt (Nat.lt_of_lt_of_le (by have := World.block_lt_of_cell? _ _ hw156_1; first | rwa [add_block] at this | exact this) GW157.out) | (rw [add_block]; exact Nat.ne_of_lt (Nat.lt_of_lt_of_le (by have := World.block_lt_of_cell? _ _ hw156_1; first | rwa [add_block] at this | exact this) GW157.out)) | (show (Addr.add _ _).block ≠ _; rw [add_block]; exact Nat.ne_of_lt (Nat.lt_of_lt_of_le (by have := World.block_lt_of_cell? _ _ hw156_1; first | rwa [add_block] at this | exact this) GW157.out)) | (dsimp only; exact Nat.ne_of_lt (Nat.lt_of_lt_of_le (by have := World.block_lt_of_cell? _ _ hw156_1; first | rwa [add_block] at this | exact this) GW157.out))) _).trans (((cell_far (p := ⟨gb157, _, none⟩) (by first | exact Nat.ne_of_lt (Nat.lt_of_lt_of_le (by have := World.block_lt_of_cell? _ _ hw156_1; first | rwa [add_block] at this | exact this) GW157.out) | (rw [add_block]; exact Nat.ne_of_lt (Nat.lt_of_lt_of_le (by have := World.block_lt_of_cell? _ _ hw156_1; first | rwa [add_block] at this | exact this) GW157.out)) | (show (Addr.add _ _).block ≠ _; rw [add_block]; exact Nat.ne_of_lt (Nat.lt_of_lt_of_le (by have := World.block_lt_of_cell? _ _ hw156_1; first | rwa [add_block] at this | exact this) GW157.out)) | (dsimp only; exact Nat.ne_of_lt (Nat.lt_of_lt_of_le (by have := World.block_lt_of_cell? _ _ hw156_1; first | rwa [add_block] at this | exact this) GW157.out))) _).trans (hHeld.2.2.2.2.2.2.2.2.2.2.2.2.2))))⟩ (fun hHeld => ?_)
                  clear hK K
                  refine pure_ (i := 10) (N := some 12) (v := ?_) (a' := ?_) (bm 11 2047) rfl rfl (any_of HT_.out (by kernel_rfl)) (fun _ _ _ h => h) (Or.inl ⟨by kernel_rfl, ?_⟩) ?_ ?_
                  rotate_left
                  ·intro w'
                   go_simp
                   with_reducible rfl
                  rotate_left
                  ·exact pA
                  refine done_ (done_of HT_.out (by kernel_rfl)) ?_
                  have hnb117 := NB157_147.out
                  have hnc117 := NB147_157.out
                  have hnb118 := NB157_148.out
                  have hnc118 := NB148_157.out
                  have q119 := cf2 BK157.out
                  try go_wp2
                  go_ret
                  exact ⟨by first | rfl | (simp [errW_none, errW_some] <;> rfl) | (simp only [← hji65]; first | rfl | (simp [errW_none, errW_some] <;> rfl)) | (simp [*, errW_none, errW_some] <;> rfl), pB⟩
                 ·rw [if_neg c110] at H
                  have c110b0 : decide (((rd_T94 l0_2 x10_4).f1) < 0) = false := decide_eq_false c110
                  clear c110
                  by_cases c120 : ((rd_T94 l0_2 x10_4).f1) ≥ (l1_2.length : Int)
                  ·rw [if_pos c120] at H
                   have c120b0 : decide ((l1_2.length : Int) ≤ ((rd_T94 l0_2 x10_4).f1)) = true := decide_eq_true c120
                   clear c120
                   obtain rfl := Option.some.inj H
                   have hnb121 := NB147_148.out
                   have hnc121 := NB148_147.out
                   have q122 := cf6 BK147.out
                   try go_wp2
                   replace BK147 := am (blk_drew BK147.out)
                   replace BK148 := am (blk_drew BK148.out)
                   replace HB := am (below_drew1 HB.out)
                   have p156 : 0 ≤ (x10_4 : Int) := pD
                   have q156 : x10_4 < (l0_2.length : Int) := pD
                   obtain ⟨ad156, e156, hx156_0, hx156_1⟩ := at_T94 HR0_2.out x10_4 p156 q156
                   have hw156_1 := hx156_1
                   (try rw [← Nbq76.out] at hx156_0)
                   have hw156_0 := hx156_0
                   cases e156
                   replace hx156_0 := (HB.out.cell (World.block_lt_of_cell? w _ hx156_0)).trans hx156_0
                   replace hx156_1 := (HB.out.cell (World.block_lt_of_cell? w _ hx156_1)).trans hx156_1
                   replace p156 := eq_true p156
                   replace q156 := eq_true q156
                   refine start_ (n := 11) (S := fun w' => w'.cell? ⟨gb147, 0, none⟩ = some (.int .i64 a0_0) ∧ w'.cell? ⟨gb147, 1, none⟩ = some (.int .i64 a0_1) ∧ w'.cell? ⟨gb147, 2, none⟩ = some (.slice (some ad156) l0_2.length c0_2) ∧ w'.cell? ⟨gb147, 3, none⟩ = some (.slice (some ad155) l0_3.length c0_3) ∧ w'.cell? ⟨gb147, 4, none⟩ = some (.slice A0_4 l0_4.length c0_4) ∧ w'.cell? ⟨gb147, 5, none⟩ = some (.slice A0_5 l0_5.length c0_5) ∧ w'.cell? ⟨gb148, 0, none⟩ = some (.int .i64 a1_0) ∧ w'.cell? ⟨gb148, 1, none⟩ = some (.int .i64 a1_1) ∧ w'.cell? ⟨gb148, 2, none⟩ = some (.slice A1_2 l1_2.length c1_2) ∧ w'.cell? ⟨gb148, 3, none⟩ = some (.slice A1_3 l1_3.length c1_3) ∧ w'.cell? ⟨gb148, 4, none⟩ = some (.slice A1_4 l1_4.length c1_4) ∧ w'.cell? ⟨gb148, 5, none⟩ = some (.slice A1_5 l1_5.length c1_5) ∧ w'.cell? (ad156.add ((x10_4).toNat * 2)) = some (.bool false) ∧ w'.cell? ⟨(ad156.add ((x10_4).toNat * 2)).block, (ad156.add ((x10_4).toNat * 2)).off + 1, none⟩ = some (.int .i64 ((rd_T94 l0_2 x10_4).f1))) (ds := []) (bm 11 0) (by kernel_rfl) rfl rfl ⟨cz0 BK147.out, cz1 BK147.out, cz2 BK147.out, cz3 BK147.out, cz4 BK147.out, cz5 BK147.out, cz0 BK148.out, cz1 BK148.out, cz2 BK148.out, cz3 BK148.out, cz4 BK148.out, cz5 BK148.out, ((HB.out.cell (World.block_lt_of_cell? w _ hw156_0)).trans hw156_0), ((HB.out.cell (World.block_lt_of_cell? w _ hw156_1)).trans hw156_1)⟩ (fun hHeld => ?_); refine with_tabW minstrelref13_alone.tab15 minstrelref13_alone.bits15 (fun HT_ HW_ => ?_)
                   generalize wr.drew = w123 at BK147 BK148 HB hx156_0 hx156_1 hHeld ⊢
                   refine pure_ (i := 0) (N := some 96) (v := ?_) (a' := ?_) (bm 11 1) rfl rfl (any_of HT_.out (by kernel_rfl)) (fun _ _ _ h => h) (Or.inl ⟨by kernel_rfl, ?_⟩) ?_ ?_
                   rotate_left
                   ·intro w'
                    go_simp
                    with_reducible rfl
                   rotate_left
                   ·exact pA
                   refine pure_ (i := 2) (N := some 98) (v := ?_) (a' := ?_) (bm 11 5) rfl rfl (any_of HT_.out (by kernel_rfl)) (fun _ _ _ h => h) (Or.inl ⟨by kernel_rfl, ?_⟩) ?_ ?_
                   rotate_left
                   ·intro w'
                    go_simp
                    with_reducible rfl
                   rotate_left
                   ·exact pA
                   refine pure_ (i := 5) (N := some 101) (v := ?_) (a' := ?_) (bm 11 37) rfl rfl (any_of HT_.out (by kernel_rfl)) (fun _ _ _ h => h) (Or.inl ⟨by kernel_rfl, ?_⟩) ?_ ?_
                   rotate_left
                   ·intro w'
                    go_simp
                    with_reducible rfl
                   rotate_left
                   ·exact pA
                   refine take_ (i := 1) (N := some 97) (v := ?_) (a' := ?_) (bm 11 39) rfl rfl (take_ofW HT_.out HW_.out (by kernel_rfl)) (fun _ _ _ h => h) (Or.inl ⟨by kernel_rfl, ?_⟩) hHeld ?_ ?_
                   rotate_left
                   ·rintro w' ⟨s0, s1, s2, s3, s4, s5, s6, s7, s8, s9, s10, s11, s12, s13⟩
                    go_simp
                    with_reducible rfl
                   rotate_left
                   ·exact pA
                   refine pure_ (i := 3) (N := some 99) (v := ?_) (a' := ?_) (bm 11 47) rfl rfl (any_of HT_.out (by kernel_rfl)) (fun _ _ _ h => h) (Or.inl ⟨by kernel_rfl, ?_⟩) ?_ ?_
                   rotate_left
                   ·intro w'
                    go_simp
                    with_reducible rfl
                   rotate_left
                   ·exact pA
                   refine take_ (i := 4) (N := some 100) (v := ?_) (a' := ?_) (bm 11 63) rfl rfl (take_ofW HT_.out HW_.out (by kernel_rfl)) (fun _ _ _ h => h) (Or.inl ⟨by kernel_rfl, ?_⟩) hHeld ?_ ?_
                   rotate_left
                   ·rintro w' ⟨s0, s1, s2, s3, s4, s5, s6, s7, s8, s9, s10, s11, s12, s13⟩
                    go_simp
                    with_reducible rfl
                   rotate_left
                   ·exact pA
                   refine take_ (i := 6) (N := some 102) (v := ?_) (a' := ?_) (bm 11 127) rfl rfl (take_ofW HT_.out HW_.out (by kernel_rfl)) (fun _ _ _ h => h) (Or.inl ⟨by kernel_rfl, ?_⟩) hHeld ?_ ?_
                   rotate_left
                   ·rintro w' ⟨s0, s1, s2, s3, s4, s5, s6, s7, s8, s9, s10, s11, s12, s13⟩
                    go_simp
                    with_reducible rfl
                   rotate_left
                   ·exact pA
                   refine pure_ (i := 7) (N := some 103) (v := ?_) (a' := ?_) (bm 11 255) rfl rfl (any_of HT_.out (by kernel_rfl)) (fun _ _ _ h => h) (Or.inl ⟨by kernel_rfl, ?_⟩) ?_ ?_
                   rotate_left
                   ·intro w'
                    go_simp
                    with_reducible rfl
                   rotate_left
                   ·exact pA
                   refine one_ (i := 8) (N := some 11) (bm 11 511) rfl rfl (one_of HT_.out (by kernel_rfl)) (by decide) (fun K hK => ?_)
                   refine box_step ?hg (N := 11) ?hd (cs := #[.bool false, .int .i64 0]) (t := 94) ?hr ?_; (case hd => rfl); (case hg => rfl); (case hr => first | (go_simp; done) | (go_simp; rfl))
                   intro gb157 hg w124 hbox hb
                   have n0_ := am (pkb BK147.out hb)
                   have n1_ := am (pkb BK148.out hb)
                   have n2_ := am (below_step pB hb)
                   have n3_ := am (hbox)
                   have n4_ := am ((by rw [hg]; exact (below_size pB) : w.heap.size ≤ gb157))
                   have n5_ := am ((by rw [hg]; exact (below_size pB) : w.heap.size ≤ gb157))
                   have n6_ := am ((by rw [hg]; exact Nat.ne_of_lt (pkl BK147.out) : gb147 ≠ gb157))
                   have n7_ := am ((by rw [hg]; exact Nat.ne_of_gt (pkl BK147.out) : gb157 ≠ gb147))
                   have n8_ := am ((by rw [hg]; exact Nat.ne_of_lt (pkl BK148.out) : gb148 ≠ gb157))
                   have n9_ := am ((by rw [hg]; exact Nat.ne_of_gt (pkl BK148.out) : gb157 ≠ gb148))
                   clear BK147 BK148 HB; have BK147 := n0_; have BK148 := n1_; have HB := n2_; have BK157 := n3_; have GW157 := n4_; have GE157 := n5_; have NB147_157 := n6_; have NB157_147 := n7_; have NB148_157 := n8_; have NB157_148 := n9_; clear n0_ n1_ n2_ n3_ n4_ n5_ n6_ n7_ n8_ n9_ hb hbox hg
                   refine hK.out _ _ ⟨cz0 BK147.out, cz1 BK147.out, cz2 BK147.out, cz3 BK147.out, cz4 BK147.out, cz5 BK147.out, cz0 BK148.out, cz1 BK148.out, cz2 BK148.out, cz3 BK148.out, cz4 BK148.out, cz5 BK148.out, ((HB.out.cell (World.block_lt_of_cell? w _ hw156_0)).trans hw156_0), ((HB.out.cell (World.block_lt_of_cell? w _ hw156_1)).trans hw156_1)⟩ (fun hHeld => ?_)
                   clear hK K
                   refine norm_ (a' := ?_) ?_ ?_
                   rotate_left
                   ·show Act.put _ (some 11) _ = _
                    exact pA
                   refine one_ (i := 9) (N := none) (bm 11 1023) rfl rfl (one_of HT_.out (by kernel_rfl)) (by decide) (fun K hK => ?_)
                   have hs125 : w124.cell? ⟨gb157, 0, none⟩ = some (.bool false) := cz0 BK157.out
                   have hfs125 := blk_frozen BK157.out 0
                   have hns125_0 := NB147_157.out
                   have hns125_1 := NB148_157.out
                   have hms125_0 := NB157_147.out
                   have hms125_1 := NB157_148.out
                   have hs126 : w124.cell? ⟨gb157, 1, none⟩ = some (.int .i64 0) := cz1 BK157.out
                   have hfs126 := blk_frozen BK157.out 1
                   have hns126_0 := NB147_157.out
                   have hns126_1 := NB148_157.out
                   have hms126_0 := NB157_147.out
                   have hms126_1 := NB157_148.out
                   refine skip_ (w1 := ?_) ?hw rfl ?_ ?_; (case hw => kernel_rfl)
                   rotate_left
                   ·go_simp
                    rfl
                   refine hK.out _ _ ⟨((cell_far (p := ⟨gb157, _, none⟩) NB147_157.out _).trans (((cell_far (p := ⟨gb157, _, none⟩) NB147_157.out _).trans (hHeld.1)))), ((cell_far (p := ⟨gb157, _, none⟩) NB147_157.out _).trans (((cell_far (p := ⟨gb157, _, none⟩) NB147_157.out _).trans (hHeld.2.1)))), ((cell_far (p := ⟨gb157, _, none⟩) NB147_157.out _).trans (((cell_far (p := ⟨gb157, _, none⟩) NB147_157.out _).trans (hHeld.2.2.1)))), ((cell_far (p := ⟨gb157, _, none⟩) NB147_157.out _).trans (((cell_far (p := ⟨gb157, _, none⟩) NB147_157.out _).trans (hHeld.2.2.2.1)))), ((cell_far (p := ⟨gb157, _, none⟩) NB147_157.out _).trans (((cell_far (p := ⟨gb157, _, none⟩) NB147_157.out _).trans (hHeld.2.2.2.2.1)))), ((cell_far (p := ⟨gb157, _, none⟩) NB147_157.out _).trans (((cell_far (p := ⟨gb157, _, none⟩) NB147_157.out _).trans (hHeld.2.2.2.2.2.1)))), ((cell_far (p := ⟨gb157, _, none⟩) NB148_157.out _).trans (((cell_far (p := ⟨gb157, _, none⟩) NB148_157.out _).trans (hHeld.2.2.2.2.2.2.1)))), ((cell_far (p := ⟨gb157, _, none⟩) NB148_157.out _).trans (((cell_far (p := ⟨gb157, _, none⟩) NB148_157.out _).trans (hHeld.2.2.2.2.2.2.2.1)))), ((cell_far (p := ⟨gb157, _, none⟩) NB148_157.out _).trans (((cell_far (p := ⟨gb157, _, none⟩) NB148_157.out _).trans (hHeld.2.2.2.2.2.2.2.2.1)))), ((cell_far (p := ⟨gb157, _, none⟩) NB148_157.out _).trans (((cell_far (p := ⟨gb157, _, none⟩) NB148_157.out _).trans (hHeld.2.2.2.2.2.2.2.2.2.1)))), ((cell_far (p := ⟨gb157, _, none⟩) NB148_157.out _).trans (((cell_far (p := ⟨gb157, _, none⟩) NB148_157.out _).trans (hHeld.2.2.2.2.2.2.2.2.2.2.1)))), ((cell_far (p := ⟨gb157, _, none⟩) NB148_157.out _).trans (((cell_far (p := ⟨gb157, _, none⟩) NB148_157.out _).trans (hHeld.2.2.2.2.2.2.2.2.2.2.2.1)))), ((cell_far (p := ⟨gb157, _, none⟩) (by first | exact Nat.ne_of_lt (Nat.lt_of_lt_of_le (by have := World.block_lt_of_cell? _ _ hw156_0; first | rwa [add_block] at this | exact this) GW157.out) | (rw [add_block]; exact Nat.ne_of_lt (Nat.lt_of_lt_of_le (by have := World.block_lt_of_cell? _ _ hw156_0; first | rwa [add_block] at this | exact this) GW157.out)) | (show (Addr.add _ _).block ≠ _; rw [add_block]; exact Nat.ne_of_lt (Nat.lt_of_lt_of_le (by have := World.block_lt_of_cell? _ _ hw156_0; first | rwa [add_block] at this | exact this) GW157.out)) | (dsimp only; exact Nat.ne_of_lt (Nat.lt_of_lt_of_le (by have := World.block_lt_of_cell? _ _ hw156_0; first | rwa [add_block] at this | exact this) GW157.out))) _).trans (((cell_far (p := ⟨gb157, _, none⟩) (by first | exact Nat.ne_of_lt (Nat.lt_of_lt_of_le (by have := World.block_lt_of_cell? _ _ hw156_0; first | rwa [add_block] at this | exact this) GW157.out) | (rw [add_block]; exact Nat.ne_of_lt (Nat.lt_of_lt_of_le (by have := World.block_lt_of_cell? _ _ hw156_0; first | rwa [add_block] at this | exact this) GW157.out)) | (show (Addr.add _ _).block ≠ _; rw [add_block]; exact Nat.ne_of_lt (Nat.lt_of_lt_of_le (by have := World.block_lt_of_cell? _ _ hw156_0; first | rwa [add_block] at this | exact this) GW157.out)) | (dsimp only; exact Nat.ne_of_lt (Nat.lt_of_lt_of_le (by have := World.block_lt_of_cell? _ _ hw156_0; first | rwa [add_block] at this | exact this) GW157.out))) _).trans (hHeld.2.2.2.2.2.2.2.2.2.2.2.2.1)))), ((cell_far (p := ⟨gb157, _, none⟩) (by first | exact Nat.ne_of_lt (Nat.lt_of_lt_of_le (by have := World.block_lt_of_cell? _ _ hw156_1; first | rwa [add_block] at this | exact this) GW157.out) | (rw [add_block]; exact Nat.ne_of_lt (Nat.lt_of_lt_of_le (by have := World.block_lt_of_cell? _ _ hw156_1; first | rwa [add_block] at this | exact this) GW157.out)) | (show (Addr.add _ _).block ≠ _; rw [add_block]; exact Nat.ne_of_lt (Nat.lt_of_lt_of_le (by have := World.block_lt_of_cell? _ _ hw156_1; first | rwa [add_block] at this | exact this) GW157.out)) | (dsimp only; exact Nat.ne_of_lt (Nat.lt_of_lt_of_le (by have := World.block_lt_of_cell? _ _ hw156_1; first | rwa [add_block] at this | exact this) GW157.out))) _).trans (((cell_far (p := ⟨gb157, _, none⟩) (by first | exact Nat.ne_of_lt (Nat.lt_of_lt_of_le (by have := World.block_lt_of_cell? _ _ hw156_1; first | rwa [add_block] at this | exact this) GW157.out) | (rw [add_block]; exact Nat.ne_of_lt (Nat.lt_of_lt_of_le (by have := World.block_lt_of_cell? _ _ hw156_1; first | rwa [add_block] at this | exact this) GW157.out)) | (show (Addr.add _ _).block ≠ _; rw [add_block]; exact Nat.ne_of_lt (Nat.lt_of_lt_of_le (by have := World.block_lt_of_cell? _ _ hw156_1; first | rwa [add_block] at this | exact this) GW157.out)) | (dsimp only; exact Nat.ne_of_lt (Nat.lt_of_lt_of_le (by have := World.block_lt_of_cell? _ _ hw156_1; first | rwa [add_block] at this | exact this) GW157.out))) _).trans (hHeld.2.2.2.2.2.2.2.2.2.2.2.2.2))))⟩ (fun hHeld => ?_)
                   clear hK K
                   refine pure_ (i := 10) (N := some 12) (v := ?_) (a' := ?_) (bm 11 2047) rfl rfl (any_of HT_.out (by kernel_rfl)) (fun _ _ _ h => h) (Or.inl ⟨by kernel_rfl, ?_⟩) ?_ ?_
                   rotate_left
                   ·intro w'
                    go_simp
                    with_reducible rfl
                   rotate_left
                   ·exact pA
                   refine done_ (done_of HT_.out (by kernel_rfl)) ?_
                   have hnb127 := NB157_147.out
                   have hnc127 := NB147_157.out
                   have hnb128 := NB157_148.out
                   have hnc128 := NB148_157.out
                   have q129 := cf2 BK157.out
                   try go_wp2
                   go_ret
                   exact ⟨by first | rfl | (simp [errW_none, errW_some] <;> rfl) | (simp only [← hji65]; first | rfl | (simp [errW_none, errW_some] <;> rfl)) | (simp [*, errW_none, errW_some] <;> rfl), pB⟩
                  ·rw [if_neg c120] at H
                   have c120b0 : decide ((l1_2.length : Int) ≤ ((rd_T94 l0_2 x10_4).f1)) = false := decide_eq_false c120
                   clear c120
                   have H' := am H
                   clear H
                   have hnb130 := NB147_148.out
                   have hnc130 := NB148_147.out
                   have q131 := cf6 BK147.out
                   try go_wp2
                   replace BK147 := am (blk_drew BK147.out)
                   replace BK148 := am (blk_drew BK148.out)
                   replace HB := am (below_drew1 HB.out)
                   have p156 : 0 ≤ (x10_4 : Int) := pD
                   have q156 : x10_4 < (l0_2.length : Int) := pD
                   obtain ⟨ad156, e156, hx156_0, hx156_1⟩ := at_T94 HR0_2.out x10_4 p156 q156
                   have hw156_1 := hx156_1
                   (try rw [← Nbq76.out] at hx156_0)
                   have hw156_0 := hx156_0
                   cases e156
                   replace hx156_0 := (HB.out.cell (World.block_lt_of_cell? w _ hx156_0)).trans hx156_0
                   replace hx156_1 := (HB.out.cell (World.block_lt_of_cell? w _ hx156_1)).trans hx156_1
                   replace p156 := eq_true p156
                   replace q156 := eq_true q156
                   refine start_ (n := 11) (S := fun w' => w'.cell? ⟨gb147, 0, none⟩ = some (.int .i64 a0_0) ∧ w'.cell? ⟨gb147, 1, none⟩ = some (.int .i64 a0_1) ∧ w'.cell? ⟨gb147, 2, none⟩ = some (.slice (some ad156) l0_2.length c0_2) ∧ w'.cell? ⟨gb147, 3, none⟩ = some (.slice (some ad155) l0_3.length c0_3) ∧ w'.cell? ⟨gb147, 4, none⟩ = some (.slice A0_4 l0_4.length c0_4) ∧ w'.cell? ⟨gb147, 5, none⟩ = some (.slice A0_5 l0_5.length c0_5) ∧ w'.cell? ⟨gb148, 0, none⟩ = some (.int .i64 a1_0) ∧ w'.cell? ⟨gb148, 1, none⟩ = some (.int .i64 a1_1) ∧ w'.cell? ⟨gb148, 2, none⟩ = some (.slice A1_2 l1_2.length c1_2) ∧ w'.cell? ⟨gb148, 3, none⟩ = some (.slice A1_3 l1_3.length c1_3) ∧ w'.cell? ⟨gb148, 4, none⟩ = some (.slice A1_4 l1_4.length c1_4) ∧ w'.cell? ⟨gb148, 5, none⟩ = some (.slice A1_5 l1_5.length c1_5) ∧ w'.cell? (ad156.add ((x10_4).toNat * 2)) = some (.bool false) ∧ w'.cell? ⟨(ad156.add ((x10_4).toNat * 2)).block, (ad156.add ((x10_4).toNat * 2)).off + 1, none⟩ = some (.int .i64 ((rd_T94 l0_2 x10_4).f1))) (ds := []) (bm 11 0) (by kernel_rfl) rfl rfl ⟨cz0 BK147.out, cz1 BK147.out, cz2 BK147.out, cz3 BK147.out, cz4 BK147.out, cz5 BK147.out, cz0 BK148.out, cz1 BK148.out, cz2 BK148.out, cz3 BK148.out, cz4 BK148.out, cz5 BK148.out, ((HB.out.cell (World.block_lt_of_cell? w _ hw156_0)).trans hw156_0), ((HB.out.cell (World.block_lt_of_cell? w _ hw156_1)).trans hw156_1)⟩ (fun hHeld => ?_); refine with_tabW minstrelref13_alone.tab15 minstrelref13_alone.bits15 (fun HT_ HW_ => ?_)
                   generalize wr.drew = w132 at BK147 BK148 HB hx156_0 hx156_1 hHeld ⊢
                   refine pure_ (i := 0) (N := some 96) (v := ?_) (a' := ?_) (bm 11 1) rfl rfl (any_of HT_.out (by kernel_rfl)) (fun _ _ _ h => h) (Or.inl ⟨by kernel_rfl, ?_⟩) ?_ ?_
                   rotate_left
                   ·intro w'
                    go_simp
                    with_reducible rfl
                   rotate_left
                   ·exact pA
                   refine pure_ (i := 2) (N := some 98) (v := ?_) (a' := ?_) (bm 11 5) rfl rfl (any_of HT_.out (by kernel_rfl)) (fun _ _ _ h => h) (Or.inl ⟨by kernel_rfl, ?_⟩) ?_ ?_
                   rotate_left
                   ·intro w'
                    go_simp
                    with_reducible rfl
                   rotate_left
                   ·exact pA
                   refine pure_ (i := 5) (N := some 101) (v := ?_) (a' := ?_) (bm 11 37) rfl rfl (any_of HT_.out (by kernel_rfl)) (fun _ _ _ h => h) (Or.inl ⟨by kernel_rfl, ?_⟩) ?_ ?_
                   rotate_left
                   ·intro w'
                    go_simp
                    with_reducible rfl
                   rotate_left
                   ·exact pA
                   refine take_ (i := 1) (N := some 97) (v := ?_) (a' := ?_) (bm 11 39) rfl rfl (take_ofW HT_.out HW_.out (by kernel_rfl)) (fun _ _ _ h => h) (Or.inl ⟨by kernel_rfl, ?_⟩) hHeld ?_ ?_
                   rotate_left
                   ·rintro w' ⟨s0, s1, s2, s3, s4, s5, s6, s7, s8, s9, s10, s11, s12, s13⟩
                    go_simp
                    with_reducible rfl
                   rotate_left
                   ·exact pA
                   refine pure_ (i := 3) (N := some 99) (v := ?_) (a' := ?_) (bm 11 47) rfl rfl (any_of HT_.out (by kernel_rfl)) (fun _ _ _ h => h) (Or.inl ⟨by kernel_rfl, ?_⟩) ?_ ?_
                   rotate_left
                   ·intro w'
                    go_simp
                    with_reducible rfl
                   rotate_left
                   ·exact pA
                   refine take_ (i := 4) (N := some 100) (v := ?_) (a' := ?_) (bm 11 63) rfl rfl (take_ofW HT_.out HW_.out (by kernel_rfl)) (fun _ _ _ h => h) (Or.inl ⟨by kernel_rfl, ?_⟩) hHeld ?_ ?_
                   rotate_left
                   ·rintro w' ⟨s0, s1, s2, s3, s4, s5, s6, s7, s8, s9, s10, s11, s12, s13⟩
                    go_simp
                    with_reducible rfl
                   rotate_left
                   ·exact pA
                   refine take_ (i := 6) (N := some 102) (v := ?_) (a' := ?_) (bm 11 127) rfl rfl (take_ofW HT_.out HW_.out (by kernel_rfl)) (fun _ _ _ h => h) (Or.inl ⟨by kernel_rfl, ?_⟩) hHeld ?_ ?_
                   rotate_left
                   ·rintro w' ⟨s0, s1, s2, s3, s4, s5, s6, s7, s8, s9, s10, s11, s12, s13⟩
                    go_simp
                    with_reducible rfl
                   rotate_left
                   ·exact pA
                   refine pure_ (i := 7) (N := some 103) (v := ?_) (a' := ?_) (bm 11 255) rfl rfl (any_of HT_.out (by kernel_rfl)) (fun _ _ _ h => h) (Or.inl ⟨by kernel_rfl, ?_⟩) ?_ ?_
                   rotate_left
                   ·intro w'
                    go_simp
                    with_reducible rfl
                   rotate_left
                   ·exact pA
                   refine one_ (i := 8) (N := some 11) (bm 11 511) rfl rfl (one_of HT_.out (by kernel_rfl)) (by decide) (fun K hK => ?_)
                   refine box_step ?hg (N := 11) ?hd (cs := #[.bool false, .int .i64 0]) (t := 94) ?hr ?_; (case hd => rfl); (case hg => rfl); (case hr => first | (go_simp; done) | (go_simp; rfl))
                   intro gb157 hg w133 hbox hb
                   have n0_ := am (pkb BK147.out hb)
                   have n1_ := am (pkb BK148.out hb)
                   have n2_ := am (below_step pB hb)
                   have n3_ := am (hbox)
                   have n4_ := am ((by rw [hg]; exact (below_size pB) : w.heap.size ≤ gb157))
                   have n5_ := am ((by rw [hg]; exact (below_size pB) : w.heap.size ≤ gb157))
                   have n6_ := am ((by rw [hg]; exact Nat.ne_of_lt (pkl BK147.out) : gb147 ≠ gb157))
                   have n7_ := am ((by rw [hg]; exact Nat.ne_of_gt (pkl BK147.out) : gb157 ≠ gb147))
                   have n8_ := am ((by rw [hg]; exact Nat.ne_of_lt (pkl BK148.out) : gb148 ≠ gb157))
                   have n9_ := am ((by rw [hg]; exact Nat.ne_of_gt (pkl BK148.out) : gb157 ≠ gb148))
                   clear BK147 BK148 HB; have BK147 := n0_; have BK148 := n1_; have HB := n2_; have BK157 := n3_; have GW157 := n4_; have GE157 := n5_; have NB147_157 := n6_; have NB157_147 := n7_; have NB148_157 := n8_; have NB157_148 := n9_; clear n0_ n1_ n2_ n3_ n4_ n5_ n6_ n7_ n8_ n9_ hb hbox hg
                   refine hK.out _ _ ⟨cz0 BK147.out, cz1 BK147.out, cz2 BK147.out, cz3 BK147.out, cz4 BK147.out, cz5 BK147.out, cz0 BK148.out, cz1 BK148.out, cz2 BK148.out, cz3 BK148.out, cz4 BK148.out, cz5 BK148.out, ((HB.out.cell (World.block_lt_of_cell? w _ hw156_0)).trans hw156_0), ((HB.out.cell (World.block_lt_of_cell? w _ hw156_1)).trans hw156_1)⟩ (fun hHeld => ?_)
                   clear hK K
                   refine norm_ (a' := ?_) ?_ ?_
                   rotate_left
                   ·show Act.put _ (some 11) _ = _
                    exact pA
                   refine one_ (i := 9) (N := none) (bm 11 1023) rfl rfl (one_of HT_.out (by kernel_rfl)) (by decide) (fun K hK => ?_)
                   have hs134 : w133.cell? ⟨gb157, 0, none⟩ = some (.bool false) := cz0 BK157.out
                   have hfs134 := blk_frozen BK157.out 0
                   have hns134_0 := NB147_157.out
                   have hns134_1 := NB148_157.out
                   have hms134_0 := NB157_147.out
                   have hms134_1 := NB157_148.out
                   have hs135 : w133.cell? ⟨gb157, 1, none⟩ = some (.int .i64 0) := cz1 BK157.out
                   have hfs135 := blk_frozen BK157.out 1
                   have hns135_0 := NB147_157.out
                   have hns135_1 := NB148_157.out
                   have hms135_0 := NB157_147.out
                   have hms135_1 := NB157_148.out
                   refine skip_ (w1 := ?_) ?hw rfl ?_ ?_; (case hw => kernel_rfl)
                   rotate_left
                   ·go_simp
                    rfl
                   refine hK.out _ _ ⟨((cell_far (p := ⟨gb157, _, none⟩) NB147_157.out _).trans (((cell_far (p := ⟨gb157, _, none⟩) NB147_157.out _).trans (hHeld.1)))), ((cell_far (p := ⟨gb157, _, none⟩) NB147_157.out _).trans (((cell_far (p := ⟨gb157, _, none⟩) NB147_157.out _).trans (hHeld.2.1)))), ((cell_far (p := ⟨gb157, _, none⟩) NB147_157.out _).trans (((cell_far (p := ⟨gb157, _, none⟩) NB147_157.out _).trans (hHeld.2.2.1)))), ((cell_far (p := ⟨gb157, _, none⟩) NB147_157.out _).trans (((cell_far (p := ⟨gb157, _, none⟩) NB147_157.out _).trans (hHeld.2.2.2.1)))), ((cell_far (p := ⟨gb157, _, none⟩) NB147_157.out _).trans (((cell_far (p := ⟨gb157, _, none⟩) NB147_157.out _).trans (hHeld.2.2.2.2.1)))), ((cell_far (p := ⟨gb157, _, none⟩) NB147_157.out _).trans (((cell_far (p := ⟨gb157, _, none⟩) NB147_157.out _).trans (hHeld.2.2.2.2.2.1)))), ((cell_far (p := ⟨gb157, _, none⟩) NB148_157.out _).trans (((cell_far (p := ⟨gb157, _, none⟩) NB148_157.out _).trans (hHeld.2.2.2.2.2.2.1)))), ((cell_far (p := ⟨gb157, _, none⟩) NB148_157.out _).trans (((cell_far (p := ⟨gb157, _, none⟩) NB148_157.out _).trans (hHeld.2.2.2.2.2.2.2.1)))), ((cell_far (p := ⟨gb157, _, none⟩) NB148_157.out _).trans (((cell_far (p := ⟨gb157, _, none⟩) NB148_157.out _).trans (hHeld.2.2.2.2.2.2.2.2.1)))), ((cell_far (p := ⟨gb157, _, none⟩) NB148_157.out _).trans (((cell_far (p := ⟨gb157, _, none⟩) NB148_157.out _).trans (hHeld.2.2.2.2.2.2.2.2.2.1)))), ((cell_far (p := ⟨gb157, _, none⟩) NB148_157.out _).trans (((cell_far (p := ⟨gb157, _, none⟩) NB148_157.out _).trans (hHeld.2.2.2.2.2.2.2.2.2.2.1)))), ((cell_far (p := ⟨gb157, _, none⟩) NB148_157.out _).trans (((cell_far (p := ⟨gb157, _, none⟩) NB148_157.out _).trans (hHeld.2.2.2.2.2.2.2.2.2.2.2.1)))), ((cell_far (p := ⟨gb157, _, none⟩) (by first | exact Nat.ne_of_lt (Nat.lt_of_lt_of_le (by have := World.block_lt_of_cell? _ _ hw156_0; first | rwa [add_block] at this | exact this) GW157.out) | (rw [add_block]; exact Nat.ne_of_lt (Nat.lt_of_lt_of_le (by have := World.block_lt_of_cell? _ _ hw156_0; first | rwa [add_block] at this | exact this) GW157.out)) | (show (Addr.add _ _).block ≠ _; rw [add_block]; exact Nat.ne_of_lt (Nat.lt_of_lt_of_le (by have := World.block_lt_of_cell? _ _ hw156_0; first | rwa [add_block] at this | exact this) GW157.out)) | (dsimp only; exact Nat.ne_of_lt (Nat.lt_of_lt_of_le (by have := World.block_lt_of_cell? _ _ hw156_0; first | rwa [add_block] at this | exact this) GW157.out))) _).trans (((cell_far (p := ⟨gb157, _, none⟩) (by first | exact Nat.ne_of_lt (Nat.lt_of_lt_of_le (by have := World.block_lt_of_cell? _ _ hw156_0; first | rwa [add_block] at this | exact this) GW157.out) | (rw [add_block]; exact Nat.ne_of_lt (Nat.lt_of_lt_of_le (by have := World.block_lt_of_cell? _ _ hw156_0; first | rwa [add_block] at this | exact this) GW157.out)) | (show (Addr.add _ _).block ≠ _; rw [add_block]; exact Nat.ne_of_lt (Nat.lt_of_lt_of_le (by have := World.block_lt_of_cell? _ _ hw156_0; first | rwa [add_block] at this | exact this) GW157.out)) | (dsimp only; exact Nat.ne_of_lt (Nat.lt_of_lt_of_le (by have := World.block_lt_of_cell? _ _ hw156_0; first | rwa [add_block] at this | exact this) GW157.out))) _).trans (hHeld.2.2.2.2.2.2.2.2.2.2.2.2.1)))), ((cell_far (p := ⟨gb157, _, none⟩) (by first | exact Nat.ne_of_lt (Nat.lt_of_lt_of_le (by have := World.block_lt_of_cell? _ _ hw156_1; first | rwa [add_block] at this | exact this) GW157.out) | (rw [add_block]; exact Nat.ne_of_lt (Nat.lt_of_lt_of_le (by have := World.block_lt_of_cell? _ _ hw156_1; first | rwa [add_block] at this | exact this) GW157.out)) | (show (Addr.add _ _).block ≠ _; rw [add_block]; exact Nat.ne_of_lt (Nat.lt_of_lt_of_le (by have := World.block_lt_of_cell? _ _ hw156_1; first | rwa [add_block] at this | exact this) GW157.out)) | (dsimp only; exact Nat.ne_of_lt (Nat.lt_of_lt_of_le (by have := World.block_lt_of_cell? _ _ hw156_1; first | rwa [add_block] at this | exact this) GW157.out))) _).trans (((cell_far (p := ⟨gb157, _, none⟩) (by first | exact Nat.ne_of_lt (Nat.lt_of_lt_of_le (by have := World.block_lt_of_cell? _ _ hw156_1; first | rwa [add_block] at this | exact this) GW157.out) | (rw [add_block]; exact Nat.ne_of_lt (Nat.lt_of_lt_of_le (by have := World.block_lt_of_cell? _ _ hw156_1; first | rwa [add_block] at this | exact this) GW157.out)) | (show (Addr.add _ _).block ≠ _; rw [add_block]; exact Nat.ne_of_lt (Nat.lt_of_lt_of_le (by have := World.block_lt_of_cell? _ _ hw156_1; first | rwa [add_block] at this | exact this) GW157.out)) | (dsimp only; exact Nat.ne_of_lt (Nat.lt_of_lt_of_le (by have := World.block_lt_of_cell? _ _ hw156_1; first | rwa [add_block] at this | exact this) GW157.out))) _).trans (hHeld.2.2.2.2.2.2.2.2.2.2.2.2.2))))⟩ (fun hHeld => ?_)
                   clear hK K
                   refine pure_ (i := 10) (N := some 12) (v := ?_) (a' := ?_) (bm 11 2047) rfl rfl (any_of HT_.out (by kernel_rfl)) (fun _ _ _ h => h) (Or.inl ⟨by kernel_rfl, ?_⟩) ?_ ?_
                   rotate_left
                   ·intro w'
                    go_simp
                    with_reducible rfl
                   rotate_left
                   ·exact pA
                   refine done_ (done_of HT_.out (by kernel_rfl)) ?_
                   have hnb136 := NB157_147.out
                   have hnc136 := NB147_157.out
                   have hnb137 := NB157_148.out
                   have hnc137 := NB148_157.out
                   have q138 := cf2 BK157.out
                   try go_wp2
                   go_roundg k4
                   case measure => have := HJ3.out; have := HK2.out; have := HJ67.out; have := HK4.out; omega
                   case rel => exact ⟨(wrap64 (x10_4 + 1)), (by first | rfl | (simp; done) | (simp [*]; done)), H', ⟨by have := HJ3.out; have := HK2.out; have := HJ67.out; have := HK4.out; omega⟩, ⟨by (with_reducible repeat (first | refine blk_drewN ?_ _ | refine blk_drew ?_ | refine blk_alloc ?_ _)); refine blk_far ?_ NB147_157.out _; (with_reducible repeat (first | refine blk_drewN ?_ _ | refine blk_drew ?_ | refine blk_alloc ?_ _)); refine blk_far ?_ NB147_157.out _; (with_reducible repeat (first | refine blk_drewN ?_ _ | refine blk_drew ?_ | refine blk_alloc ?_ _)); exact BK147.out⟩, ⟨by (with_reducible repeat (first | refine blk_drewN ?_ _ | refine blk_drew ?_ | refine blk_alloc ?_ _)); refine blk_far ?_ NB148_157.out _; (with_reducible repeat (first | refine blk_drewN ?_ _ | refine blk_drew ?_ | refine blk_alloc ?_ _)); refine blk_far ?_ NB148_157.out _; (with_reducible repeat (first | refine blk_drewN ?_ _ | refine blk_drew ?_ | refine blk_alloc ?_ _)); exact BK148.out⟩, ⟨pB⟩⟩
               ·rw [if_neg c75] at H
                exact absurd H (by simp)
              ·rw [if_neg c74] at H
               have c74b0 : decide (x10_4 < (l0_2.length : Int)) = false := decide_eq_false c74
               clear c74
               have H' := am H
               clear H
               have hnb139 := NB147_148.out
               have hnc139 := NB148_147.out
               have q140 := cf6 BK147.out
               go_wp2
               go_loopg [13] k4 (fun kq v13 w' => ∃ (x13_5 : Int), v13 = .int .i64 x13_5 ∧ Aside0 (minstrelref13_alone.l2 kq x13_5 a0_0 a0_1 l0_2 l0_3 l0_4 l0_5 = some r) ∧ Aside0 (kq ≤ k4) ∧ Aside0 (w'.heap[gb147]? = some (.cells #[.int .i64 a0_0, .int .i64 a0_1, (.slice A0_2 l0_2.length c0_2), (.slice (some ad155) l0_3.length c0_3), (.slice A0_4 l0_4.length c0_4), (.slice A0_5 l0_5.length c0_5)] 27 (0, 0))) ∧ Aside0 (w'.heap[gb148]? = some (.cells #[.int .i64 a1_0, .int .i64 a1_1, (.slice A1_2 l1_2.length c1_2), (.slice A1_3 l1_3.length c1_3), (.slice A1_4 l1_4.length c1_4), (.slice A1_5 l1_5.length c1_5)] 27 (0, 0))) ∧ Aside0 (Below w.heap.size w w'))
               case atStart => exact ⟨(0), (by first | rfl | (simp; done) | (simp [*]; done)), H', ⟨Nat.le_refl _⟩, ⟨by (with_reducible repeat (first | refine blk_drewN ?_ _ | refine blk_drew ?_ | refine blk_alloc ?_ _)); exact BK147.out⟩, ⟨by (with_reducible repeat (first | refine blk_drewN ?_ _ | refine blk_drew ?_ | refine blk_alloc ?_ _)); exact BK148.out⟩, ⟨pB⟩⟩
               case round =>
                clear H'
                try clear c1
                try clear p1
                try clear q1
                try clear hx1
                try clear p2
                try clear p6
                try clear c7
                try clear q7
                try clear c10
                try clear c11
                try clear c12
                try clear c13
                try clear p15
                try clear q15
                try clear hx15
                try clear p64
                try clear c74
                try clear c74b0
                try clear c75
                try clear q76
                try clear c77
                try clear c107
                try clear c110
                try clear c110b0
                try clear c111
                try clear c117
                try clear c118
                try clear c120
                try clear c120b0
                try clear c121
                try clear c127
                try clear c128
                try clear c130
                try clear c136
                try clear c137
                try clear c139
                try clear q108 q109 q112 q119 q122 q129 q131 q138 q140
                try clear hx156_0
                try clear hx156_1
                try clear p156
                try clear q156
                obtain ⟨x13_5, rfl, HA, HK5, BK147, BK148, HB⟩ := hrel
                cases gk with
                | zero => exact absurd HA.out (by simp [minstrelref13_alone.l2])
                | succ k5 =>
                 have H := HA.out
                 clear HA
                 simp only [minstrelref13_alone.l2] at H
                 by_cases c141 : x13_5 < (l0_3.length : Int)
                 ·rw [if_pos c141] at H
                  have c141b0 : decide (x13_5 < (l0_3.length : Int)) = true := decide_eq_true c141
                  clear c141
                  by_cases c142 : 0 ≤ x13_5
                  ·rw [if_pos c142] at H
                   have c142b0 : decide (0 ≤ x13_5) = true := decide_eq_true c142
                   clear c142
                   replace H := Option.bind_eq_some_iff.mp H
                   obtain ⟨t159, A1430, H⟩ := H
                   try dsimp only at H
                   have A143 := am A1430
                   clear A1430
                   by_cases c144 : t159 = true
                   ·subst c144
                    rw [if_pos rfl] at H
                    have H' := am H
                    clear H
                    have hnb145 := NB147_148.out
                    have hnc145 := NB148_147.out
                    have q146 := cf6 BK147.out
                    try go_wp2
                    replace BK147 := am (blk_drew BK147.out)
                    replace BK148 := am (blk_drew BK148.out)
                    replace HB := am (below_drew1 HB.out)
                    have p158 : 0 ≤ (x13_5 : Int) := pD
                    have q158 : x13_5 < (l0_3.length : Int) := pD
                    obtain ⟨ad158, e158, hx158_0, hx158_1, hx158_2, hx158_3⟩ := at_T36 HR0_3.out x13_5 p158 q158
                    have hw158_3 := hx158_3
                    have hw158_2 := hx158_2
                    have hw158_1 := hx158_1
                    have hw158_0 := hx158_0
                    obtain rfl : ad155 = ad158 := (by injection e158)
                    replace hx158_0 := (HB.out.cell (World.block_lt_of_cell? w _ hx158_0)).trans hx158_0
                    replace hx158_1 := (HB.out.cell (World.block_lt_of_cell? w _ hx158_1)).trans hx158_1
                    replace hx158_2 := (HB.out.cell (World.block_lt_of_cell? w _ hx158_2)).trans hx158_2
                    replace hx158_3 := (HB.out.cell (World.block_lt_of_cell? w _ hx158_3)).trans hx158_3
                    replace p158 := eq_true p158
                    replace q158 := eq_true q158
                    refine start_ (n := 8) (S := fun w' => w'.cell? ⟨gb147, 0, none⟩ = some (.int .i64 a0_0) ∧ w'.cell? ⟨gb147, 1, none⟩ = some (.int .i64 a0_1) ∧ w'.cell? ⟨gb147, 2, none⟩ = some (.slice A0_2 l0_2.length c0_2) ∧ w'.cell? ⟨gb147, 3, none⟩ = some (.slice (some ad155) l0_3.length c0_3) ∧ w'.cell? ⟨gb147, 4, none⟩ = some (.slice A0_4 l0_4.length c0_4) ∧ w'.cell? ⟨gb147, 5, none⟩ = some (.slice A0_5 l0_5.length c0_5) ∧ w'.cell? (ad155.add ((x13_5).toNat * 4)) = some (.int .i64 ((rd_T36 l0_3 x13_5).f0)) ∧ w'.cell? ⟨(ad155.add ((x13_5).toNat * 4)).block, (ad155.add ((x13_5).toNat * 4)).off + 1, none⟩ = some (.int .i64 ((rd_T36 l0_3 x13_5).f1)) ∧ w'.cell? ⟨(ad155.add ((x13_5).toNat * 4)).block, (ad155.add ((x13_5).toNat * 4)).off + 2, none⟩ = some (.int .i64 ((rd_T36 l0_3 x13_5).f2)) ∧ w'.cell? ⟨(ad155.add ((x13_5).toNat * 4)).block, (ad155.add ((x13_5).toNat * 4)).off + 3, none⟩ = some (.int .i64 ((rd_T36 l0_3 x13_5).f3))) (ds := []) (bm 8 0) (by kernel_rfl) rfl rfl ⟨cz0 BK147.out, cz1 BK147.out, cz2 BK147.out, cz3 BK147.out, cz4 BK147.out, cz5 BK147.out, ((HB.out.cell (World.block_lt_of_cell? w _ hw158_0)).trans hw158_0), ((HB.out.cell (World.block_lt_of_cell? w _ hw158_1)).trans hw158_1), ((HB.out.cell (World.block_lt_of_cell? w _ hw158_2)).trans hw158_2), ((HB.out.cell (World.block_lt_of_cell? w _ hw158_3)).trans hw158_3)⟩ (fun hHeld => ?_); refine with_tabW minstrelref13_alone.tab23 minstrelref13_alone.bits23 (fun HT_ HW_ => ?_)
                    generalize wr.drew = w147 at BK147 BK148 HB hx158_0 hx158_1 hx158_2 hx158_3 hHeld ⊢
                    refine pure_ (i := 1) (N := some 125) (v := ?_) (a' := ?_) (bm 8 2) rfl rfl (any_of HT_.out (by kernel_rfl)) (fun _ _ _ h => h) (Or.inl ⟨by kernel_rfl, ?_⟩) ?_ ?_
                    rotate_left
                    ·intro w'
                     go_simp
                     with_reducible rfl
                    rotate_left
                    ·exact pA
                    refine pure_ (i := 3) (N := some 127) (v := ?_) (a' := ?_) (bm 8 10) rfl rfl (any_of HT_.out (by kernel_rfl)) (fun _ _ _ h => h) (Or.inl ⟨by kernel_rfl, ?_⟩) ?_ ?_
                    rotate_left
                    ·intro w'
                     go_simp
                     with_reducible rfl
                    rotate_left
                    ·exact pA
                    refine take_ (i := 0) (N := some 124) (v := ?_) (a' := ?_) (bm 8 11) rfl rfl (take_ofW HT_.out HW_.out (by kernel_rfl)) (fun _ _ _ h => h) (Or.inl ⟨by kernel_rfl, ?_⟩) hHeld ?_ ?_
                    rotate_left
                    ·rintro w' ⟨s0, s1, s2, s3, s4, s5, s6, s7, s8, s9⟩
                     go_simp
                     with_reducible rfl
                    rotate_left
                    ·exact pA
                    refine take_ (i := 2) (N := some 126) (v := ?_) (a' := ?_) (bm 8 15) rfl rfl (take_ofW HT_.out HW_.out (by kernel_rfl)) (fun _ _ _ h => h) (Or.inl ⟨by kernel_rfl, ?_⟩) hHeld ?_ ?_
                    rotate_left
                    ·rintro w' ⟨s0, s1, s2, s3, s4, s5, s6, s7, s8, s9⟩
                     go_simp
                     with_reducible rfl
                    rotate_left
                    ·exact pA
                    refine pure_ (i := 4) (N := some 128) (v := ?_) (a' := ?_) (bm 8 31) rfl rfl (any_of HT_.out (by kernel_rfl)) (fun _ _ _ h => h) (Or.inl ⟨by kernel_rfl, ?_⟩) ?_ ?_
                    rotate_left
                    ·intro w'
                     go_simp
                     with_reducible rfl
                    rotate_left
                    ·exact pA
                    refine take_ (i := 5) (N := some 129) (v := ?_) (a' := ?_) (bm 8 63) rfl rfl (take_ofW HT_.out HW_.out (by kernel_rfl)) (fun _ _ _ h => h) (Or.inl ⟨by kernel_rfl, ?_⟩) hHeld ?_ ?_
                    rotate_left
                    ·rintro w' ⟨s0, s1, s2, s3, s4, s5, s6, s7, s8, s9⟩
                     go_simp
                     with_reducible rfl
                    rotate_left
                    ·exact pA
                    refine one_ (i := 6) (N := some 130) (bm 8 127) rfl rfl (one_of HT_.out (by kernel_rfl)) (by decide) (fun K hK => ?_)
                    refine goes_ Tryd.func70 (by kernel_rfl) rfl #[.agg #[.int .i64 a0_0, .int .i64 a0_1, .slice A0_2 l0_2.length c0_2, .slice (some ad155) l0_3.length c0_3, .slice A0_4 l0_4.length c0_4, .slice A0_5 l0_5.length c0_5], .agg #[.int .i64 ((rd_T36 l0_3 x13_5).f0), .int .i64 ((rd_T36 l0_3 x13_5).f1), .int .i64 ((rd_T36 l0_3 x13_5).f2), .int .i64 ((rd_T36 l0_3 x13_5).f3)]] (by rfl) rfl rfl pM ?_
                    with_reducible refine (minstrelref13_can.calls k5 a0_0 a0_1 _ _ l0_2 _ _ l0_3 _ _ l0_4 _ _ l0_5 ((rd_T36 l0_3 x13_5).f0) ((rd_T36 l0_3 x13_5).f1) ((rd_T36 l0_3 x13_5).f2) ((rd_T36 l0_3 x13_5).f3) true _ ?side1 ?side2 ?side3 ?side4 ?side5 ?side6 ?side7 ?side8 A143.out).mono ?_
                    (case side1 => exact pC (Kd.C_below HR0_2.out HB.out))
                    (case side2 => exact HC0_2.out)
                    (case side3 => exact pC (Kd.C_below HR0_3.out HB.out))
                    (case side4 => exact HC0_3.out)
                    (case side5 => exact pC (Kd.C_below HR0_4.out HB.out))
                    (case side6 => exact HC0_4.out)
                    (case side7 => exact pC (Kd.C_below HR0_5.out HB.out))
                    (case side8 => exact HC0_5.out)
                    rintro e w148 ⟨rfl, hb⟩
                    refine ⟨_, rfl, ?_⟩
                    have n0_ := am (pkb BK147.out hb)
                    have n1_ := am (pkb BK148.out hb)
                    have n2_ := am (below_step pB hb)
                    clear BK147 BK148 HB; have BK147 := n0_; have BK148 := n1_; have HB := n2_; clear n0_ n1_ n2_; (try clear hb); (try clear hb2); (try clear hk); (try clear hi)
                    refine hK.out _ _ ⟨cz0 BK147.out, cz1 BK147.out, cz2 BK147.out, cz3 BK147.out, cz4 BK147.out, cz5 BK147.out, ((HB.out.cell (World.block_lt_of_cell? w _ hw158_0)).trans hw158_0), ((HB.out.cell (World.block_lt_of_cell? w _ hw158_1)).trans hw158_1), ((HB.out.cell (World.block_lt_of_cell? w _ hw158_2)).trans hw158_2), ((HB.out.cell (World.block_lt_of_cell? w _ hw158_3)).trans hw158_3)⟩ (fun hHeld => ?_)
                    clear hK K
                    refine norm_ (a' := ?_) ?_ ?_
                    rotate_left
                    ·show Act.put _ (some 130) _ = _
                     exact pA
                    refine pure_ (i := 7) (N := some 131) (v := ?_) (a' := ?_) (bm 8 255) rfl rfl (any_of HT_.out (by kernel_rfl)) (fun _ _ _ h => h) (Or.inl ⟨by kernel_rfl, ?_⟩) ?_ ?_
                    rotate_left
                    ·intro w'
                     go_simp
                     with_reducible rfl
                    rotate_left
                    ·exact pA
                    refine done_ (done_of HT_.out (by kernel_rfl)) ?_
                    try go_wp2
                    go_roundg k5
                    case measure => have := HJ3.out; have := HK2.out; have := HJ67.out; have := HK4.out; have := HK5.out; omega
                    case rel => exact ⟨(wrap64 (x13_5 + 1)), (by first | rfl | (simp; done) | (simp [*]; done)), H', ⟨by have := HJ3.out; have := HK2.out; have := HJ67.out; have := HK4.out; have := HK5.out; omega⟩, ⟨by (with_reducible repeat (first | refine blk_drewN ?_ _ | refine blk_drew ?_ | refine blk_alloc ?_ _)); exact BK147.out⟩, ⟨by (with_reducible repeat (first | refine blk_drewN ?_ _ | refine blk_drew ?_ | refine blk_alloc ?_ _)); exact BK148.out⟩, ⟨pB⟩⟩
                   ·replace c144 := Bool.eq_false_iff.mpr c144
                    subst c144
                    rw [if_neg (show ¬ (false = true) by decide)] at H
                    obtain rfl := Option.some.inj H
                    have hnb149 := NB147_148.out
                    have hnc149 := NB148_147.out
                    have q150 := cf6 BK147.out
                    try go_wp2
                    replace BK147 := am (blk_drew BK147.out)
                    replace BK148 := am (blk_drew BK148.out)
                    replace HB := am (below_drew1 HB.out)
                    have p158 : 0 ≤ (x13_5 : Int) := pD
                    have q158 : x13_5 < (l0_3.length : Int) := pD
                    obtain ⟨ad158, e158, hx158_0, hx158_1, hx158_2, hx158_3⟩ := at_T36 HR0_3.out x13_5 p158 q158
                    have hw158_3 := hx158_3
                    have hw158_2 := hx158_2
                    have hw158_1 := hx158_1
                    have hw158_0 := hx158_0
                    obtain rfl : ad155 = ad158 := (by injection e158)
                    replace hx158_0 := (HB.out.cell (World.block_lt_of_cell? w _ hx158_0)).trans hx158_0
                    replace hx158_1 := (HB.out.cell (World.block_lt_of_cell? w _ hx158_1)).trans hx158_1
                    replace hx158_2 := (HB.out.cell (World.block_lt_of_cell? w _ hx158_2)).trans hx158_2
                    replace hx158_3 := (HB.out.cell (World.block_lt_of_cell? w _ hx158_3)).trans hx158_3
                    replace p158 := eq_true p158
                    replace q158 := eq_true q158
                    refine start_ (n := 8) (S := fun w' => w'.cell? ⟨gb147, 0, none⟩ = some (.int .i64 a0_0) ∧ w'.cell? ⟨gb147, 1, none⟩ = some (.int .i64 a0_1) ∧ w'.cell? ⟨gb147, 2, none⟩ = some (.slice A0_2 l0_2.length c0_2) ∧ w'.cell? ⟨gb147, 3, none⟩ = some (.slice (some ad155) l0_3.length c0_3) ∧ w'.cell? ⟨gb147, 4, none⟩ = some (.slice A0_4 l0_4.length c0_4) ∧ w'.cell? ⟨gb147, 5, none⟩ = some (.slice A0_5 l0_5.length c0_5) ∧ w'.cell? (ad155.add ((x13_5).toNat * 4)) = some (.int .i64 ((rd_T36 l0_3 x13_5).f0)) ∧ w'.cell? ⟨(ad155.add ((x13_5).toNat * 4)).block, (ad155.add ((x13_5).toNat * 4)).off + 1, none⟩ = some (.int .i64 ((rd_T36 l0_3 x13_5).f1)) ∧ w'.cell? ⟨(ad155.add ((x13_5).toNat * 4)).block, (ad155.add ((x13_5).toNat * 4)).off + 2, none⟩ = some (.int .i64 ((rd_T36 l0_3 x13_5).f2)) ∧ w'.cell? ⟨(ad155.add ((x13_5).toNat * 4)).block, (ad155.add ((x13_5).toNat * 4)).off + 3, none⟩ = some (.int .i64 ((rd_T36 l0_3 x13_5).f3))) (ds := []) (bm 8 0) (by kernel_rfl) rfl rfl ⟨cz0 BK147.out, cz1 BK147.out, cz2 BK147.out, cz3 BK147.out, cz4 BK147.out, cz5 BK147.out, ((HB.out.cell (World.block_lt_of_cell? w _ hw158_0)).trans hw158_0), ((HB.out.cell (World.block_lt_of_cell? w _ hw158_1)).trans hw158_1), ((HB.out.cell (World.block_lt_of_cell? w _ hw158_2)).trans hw158_2), ((HB.out.cell (World.block_lt_of_cell? w _ hw158_3)).trans hw158_3)⟩ (fun hHeld => ?_); refine with_tabW minstrelref13_alone.tab23 minstrelref13_alone.bits23 (fun HT_ HW_ => ?_)
                    generalize wr.drew = w151 at BK147 BK148 HB hx158_0 hx158_1 hx158_2 hx158_3 hHeld ⊢
                    refine pure_ (i := 1) (N := some 125) (v := ?_) (a' := ?_) (bm 8 2) rfl rfl (any_of HT_.out (by kernel_rfl)) (fun _ _ _ h => h) (Or.inl ⟨by kernel_rfl, ?_⟩) ?_ ?_
                    rotate_left
                    ·intro w'
                     go_simp
                     with_reducible rfl
                    rotate_left
                    ·exact pA
                    refine pure_ (i := 3) (N := some 127) (v := ?_) (a' := ?_) (bm 8 10) rfl rfl (any_of HT_.out (by kernel_rfl)) (fun _ _ _ h => h) (Or.inl ⟨by kernel_rfl, ?_⟩) ?_ ?_
                    rotate_left
                    ·intro w'
                     go_simp
                     with_reducible rfl
                    rotate_left
                    ·exact pA
                    refine take_ (i := 0) (N := some 124) (v := ?_) (a' := ?_) (bm 8 11) rfl rfl (take_ofW HT_.out HW_.out (by kernel_rfl)) (fun _ _ _ h => h) (Or.inl ⟨by kernel_rfl, ?_⟩) hHeld ?_ ?_
                    rotate_left
                    ·rintro w' ⟨s0, s1, s2, s3, s4, s5, s6, s7, s8, s9⟩
                     go_simp
                     with_reducible rfl
                    rotate_left
                    ·exact pA
                    refine take_ (i := 2) (N := some 126) (v := ?_) (a' := ?_) (bm 8 15) rfl rfl (take_ofW HT_.out HW_.out (by kernel_rfl)) (fun _ _ _ h => h) (Or.inl ⟨by kernel_rfl, ?_⟩) hHeld ?_ ?_
                    rotate_left
                    ·rintro w' ⟨s0, s1, s2, s3, s4, s5, s6, s7, s8, s9⟩
                     go_simp
                     with_reducible rfl
                    rotate_left
                    ·exact pA
                    refine pure_ (i := 4) (N := some 128) (v := ?_) (a' := ?_) (bm 8 31) rfl rfl (any_of HT_.out (by kernel_rfl)) (fun _ _ _ h => h) (Or.inl ⟨by kernel_rfl, ?_⟩) ?_ ?_
                    rotate_left
                    ·intro w'
                     go_simp
                     with_reducible rfl
                    rotate_left
                    ·exact pA
                    refine take_ (i := 5) (N := some 129) (v := ?_) (a' := ?_) (bm 8 63) rfl rfl (take_ofW HT_.out HW_.out (by kernel_rfl)) (fun _ _ _ h => h) (Or.inl ⟨by kernel_rfl, ?_⟩) hHeld ?_ ?_
                    rotate_left
                    ·rintro w' ⟨s0, s1, s2, s3, s4, s5, s6, s7, s8, s9⟩
                     go_simp
                     with_reducible rfl
                    rotate_left
                    ·exact pA
                    refine one_ (i := 6) (N := some 130) (bm 8 127) rfl rfl (one_of HT_.out (by kernel_rfl)) (by decide) (fun K hK => ?_)
                    refine goes_ Tryd.func70 (by kernel_rfl) rfl #[.agg #[.int .i64 a0_0, .int .i64 a0_1, .slice A0_2 l0_2.length c0_2, .slice (some ad155) l0_3.length c0_3, .slice A0_4 l0_4.length c0_4, .slice A0_5 l0_5.length c0_5], .agg #[.int .i64 ((rd_T36 l0_3 x13_5).f0), .int .i64 ((rd_T36 l0_3 x13_5).f1), .int .i64 ((rd_T36 l0_3 x13_5).f2), .int .i64 ((rd_T36 l0_3 x13_5).f3)]] (by rfl) rfl rfl pM ?_
                    with_reducible refine (minstrelref13_can.calls k5 a0_0 a0_1 _ _ l0_2 _ _ l0_3 _ _ l0_4 _ _ l0_5 ((rd_T36 l0_3 x13_5).f0) ((rd_T36 l0_3 x13_5).f1) ((rd_T36 l0_3 x13_5).f2) ((rd_T36 l0_3 x13_5).f3) false _ ?side1 ?side2 ?side3 ?side4 ?side5 ?side6 ?side7 ?side8 A143.out).mono ?_
                    (case side1 => exact pC (Kd.C_below HR0_2.out HB.out))
                    (case side2 => exact HC0_2.out)
                    (case side3 => exact pC (Kd.C_below HR0_3.out HB.out))
                    (case side4 => exact HC0_3.out)
                    (case side5 => exact pC (Kd.C_below HR0_4.out HB.out))
                    (case side6 => exact HC0_4.out)
                    (case side7 => exact pC (Kd.C_below HR0_5.out HB.out))
                    (case side8 => exact HC0_5.out)
                    rintro e w152 ⟨rfl, hb⟩
                    refine ⟨_, rfl, ?_⟩
                    have n0_ := am (pkb BK147.out hb)
                    have n1_ := am (pkb BK148.out hb)
                    have n2_ := am (below_step pB hb)
                    clear BK147 BK148 HB; have BK147 := n0_; have BK148 := n1_; have HB := n2_; clear n0_ n1_ n2_; (try clear hb); (try clear hb2); (try clear hk); (try clear hi)
                    refine hK.out _ _ ⟨cz0 BK147.out, cz1 BK147.out, cz2 BK147.out, cz3 BK147.out, cz4 BK147.out, cz5 BK147.out, ((HB.out.cell (World.block_lt_of_cell? w _ hw158_0)).trans hw158_0), ((HB.out.cell (World.block_lt_of_cell? w _ hw158_1)).trans hw158_1), ((HB.out.cell (World.block_lt_of_cell? w _ hw158_2)).trans hw158_2), ((HB.out.cell (World.block_lt_of_cell? w _ hw158_3)).trans hw158_3)⟩ (fun hHeld => ?_)
                    clear hK K
                    refine norm_ (a' := ?_) ?_ ?_
                    rotate_left
                    ·show Act.put _ (some 130) _ = _
                     exact pA
                    refine pure_ (i := 7) (N := some 131) (v := ?_) (a' := ?_) (bm 8 255) rfl rfl (any_of HT_.out (by kernel_rfl)) (fun _ _ _ h => h) (Or.inl ⟨by kernel_rfl, ?_⟩) ?_ ?_
                    rotate_left
                    ·intro w'
                     go_simp
                     with_reducible rfl
                    rotate_left
                    ·exact pA
                    refine done_ (done_of HT_.out (by kernel_rfl)) ?_
                    try go_wp2
                    go_ret
                    exact ⟨by first | rfl | (simp [errW_none, errW_some] <;> rfl) | (simp only [← hji65]; first | rfl | (simp [errW_none, errW_some] <;> rfl)) | (simp [*, errW_none, errW_some] <;> rfl), pB⟩
                  ·rw [if_neg c142] at H
                   exact absurd H (by simp)
                 ·rw [if_neg c141] at H
                  have c141b0 : decide (x13_5 < (l0_3.length : Int)) = false := decide_eq_false c141
                  clear c141
                  obtain rfl := Option.some.inj H
                  have hnb153 := NB147_148.out
                  have hnc153 := NB148_147.out
                  have q154 := cf6 BK147.out
                  go_wp2
                  go_ret
                  exact ⟨by first | rfl | (simp [errW_none, errW_some] <;> rfl) | (simp only [← hji65]; first | rfl | (simp [errW_none, errW_some] <;> rfl)) | (simp [*, errW_none, errW_some] <;> rfl), pB⟩
        ·rw [if_neg c67] at H
         exact absurd H (by simp)
       ·rw [if_neg c66] at H
        exact absurd H (by simp)
end Go.Proofs.YtlhnkfheojlghaaDoor.Pr
end
section
namespace Go.Proofs.YtlhnkfheojlghaaDoor.Pr
open Go.RowKit Go.Proofs.YtlhnkfheojlghaaDoorW.PrintWords Go.Proofs.YtlhnkfheojlghaaDoorW.PrintLast Go.Proofs.YtlhnkfheojlghaaDoorW.PrintMore
attribute [local go_sem] max2_int min2_int max_two min_two max_three min_three max_four min_four
mutual
def minstrelref13_check.j0 : Nat → Int → Int → Bool → Int → Int → List (S94) → List (S36) → List (S98) → List (S27) → Int → Int → List (S94) → List (S36) → List (S98) → List (S27) → Option (Int × Int)
 | 0, _, _, _, _, _, _, _, _, _, _, _, _, _, _, _ => none
 | k + 1, x2, x3, x44, x161000, x161001, x161002, x161003, x161004, x161005, x162000, x162001, x162002, x162003, x162004, x162005 => if x44 = true then (some (x3, 2)) else ((minstrelref13_alone.f k x161000 x161001 x161002 x161003 x161004 x161005 x162000 x162001 x162002 x162003 x162004 x162005 (x2 == 0)).bind fun t162 => (if t162 = 0 then (minstrelref13_check.l0 k x2 x3 0 x161000 x161001 x161002 x161003 x161004 x161005) else (some (x3, t162))))
def minstrelref13_check.l0 : Nat → Int → Int → Int → Int → Int → List (S94) → List (S36) → List (S98) → List (S27) → Option (Int × Int)
 | 0, _, _, _, _, _, _, _, _, _ => none
 | k + 1, x2, x3, x11, x161000, x161001, x161002, x161003, x161004, x161005 => if x11 < (x161005.length : Int) then (if 0 ≤ x11 then ((minstrelref13_check.f k ((rd_T27 x161005 x11).f0) ((rd_T27 x161005 x11).f1) ((rd_T27 x161005 x11).f2) ((rd_T27 x161005 x11).f3) ((rd_T27 x161005 x11).f4) ((rd_T27 x161005 x11).f5) x161000 x161001 x161002 x161003 x161004 x161005 (wrap64 (x2 + 1)) x3).bind fun bt164 => (if bt164.2 = 0 then (minstrelref13_check.l0 k x2 bt164.1 (wrap64 (x11 + 1)) x161000 x161001 x161002 x161003 x161004 x161005) else (some (bt164.1, bt164.2)))) else (none)) else (some (x3, 0))
def minstrelref13_check.f : Nat → Int → Int → List (S94) → List (S36) → List (S98) → List (S27) → Int → Int → List (S94) → List (S36) → List (S98) → List (S27) → Int → Int → Option (Int × Int)
 | 0, _, _, _, _, _, _, _, _, _, _, _, _, _, _ => none
 | k + 1, a0_0, a0_1, l0_2, l0_3, l0_4, l0_5, a1_0, a1_1, l1_2, l1_3, l1_4, l1_5, a2, a3 => if a0_1 > 4096 then (minstrelref13_check.j0 k a2 (wrap64 (a3 + 1)) true a0_0 a0_1 l0_2 l0_3 l0_4 l0_5 a1_0 a1_1 l1_2 l1_3 l1_4 l1_5) else (if (l0_3.length : Int) > 131072 then (minstrelref13_check.j0 k a2 (wrap64 (a3 + 1)) true a0_0 a0_1 l0_2 l0_3 l0_4 l0_5 a1_0 a1_1 l1_2 l1_3 l1_4 l1_5) else (if (l0_4.length : Int) > 131072 then (minstrelref13_check.j0 k a2 (wrap64 (a3 + 1)) true a0_0 a0_1 l0_2 l0_3 l0_4 l0_5 a1_0 a1_1 l1_2 l1_3 l1_4 l1_5) else (if (l0_2.length : Int) > 60 then (minstrelref13_check.j0 k a2 (wrap64 (a3 + 1)) true a0_0 a0_1 l0_2 l0_3 l0_4 l0_5 a1_0 a1_1 l1_2 l1_3 l1_4 l1_5) else (if a2 > 100 then (minstrelref13_check.j0 k a2 (wrap64 (a3 + 1)) true a0_0 a0_1 l0_2 l0_3 l0_4 l0_5 a1_0 a1_1 l1_2 l1_3 l1_4 l1_5) else (minstrelref13_check.j0 k a2 (wrap64 (a3 + 1)) (decide ((wrap64 (a3 + 1)) > 4096)) a0_0 a0_1 l0_2 l0_3 l0_4 l0_5 a1_0 a1_1 l1_2 l1_3 l1_4 l1_5)))))
end
def minstrelref13_check.T10 : Bool × List (List Nat × List Nat) := (true, [([], []), ([0], [0]), ([], []), ([1, 2], [1, 2]), ([3], [3]), ([], []), ([], []), ([6], [6]), ([], []), ([4, 5, 7, 8], [4, 5, 7, 8]), ([9], [9]), ([10], [10]), ([10], [10]), ([11, 9, 0, 1, 2, 3, 4, 5, 6, 7, 8, 9, 10, 11], [11]), ([12, 13, 0, 1, 2, 3, 4, 5, 6, 7, 8, 9, 10, 11, 12, 13], [12])])
def minstrelref13_check.B10 : List Nat := [0, 1, 0, 7, 15, 0, 0, 64, 0, 511, 1023, 2047, 2047, 4095, 16383]
theorem minstrelref13_check.tab10 : rtab .any (opsOf Tryd.f30 10) = minstrelref13_check.T10 := by kernel_rfl
theorem minstrelref13_check.bits10 : waitsOk minstrelref13_check.T10.2 minstrelref13_check.B10 = true := by kernel_rfl
set_option maxHeartbeats 8000000 in
set_option maxRecDepth 100000 in
theorem minstrelref13_check.calls (k : Nat) : ∀ (a0_0 : Int) (a0_1 : Int) (A0_2 : Option Addr) (c0_2 : Nat) (l0_2 : List (S94)) (A0_3 : Option Addr) (c0_3 : Nat) (l0_3 : List (S36)) (A0_4 : Option Addr) (c0_4 : Nat) (l0_4 : List (S98)) (A0_5 : Option Addr) (c0_5 : Nat) (l0_5 : List (S27)) (a1_0 : Int) (a1_1 : Int) (A1_2 : Option Addr) (c1_2 : Nat) (l1_2 : List (S94)) (A1_3 : Option Addr) (c1_3 : Nat) (l1_3 : List (S36)) (A1_4 : Option Addr) (c1_4 : Nat) (l1_4 : List (S98)) (A1_5 : Option Addr) (c1_5 : Nat) (l1_5 : List (S27)) (a2 : Int) (a3 : Int) (r1 : Int) (r2 : Int) (w : World) (hr0_2 : Kd.C k94 w A0_2 l0_2.length l0_2) (hc0_2 : l0_2.length ≤ c0_2) (hr0_3 : Kd.C k36 w A0_3 l0_3.length l0_3) (hc0_3 : l0_3.length ≤ c0_3) (hr0_4 : Kd.C k98 w A0_4 l0_4.length l0_4) (hc0_4 : l0_4.length ≤ c0_4) (hr0_5 : Kd.C k27 w A0_5 l0_5.length l0_5) (hc0_5 : l0_5.length ≤ c0_5) (hr1_2 : Kd.C k94 w A1_2 l1_2.length l1_2) (hc1_2 : l1_2.length ≤ c1_2) (hr1_3 : Kd.C k36 w A1_3 l1_3.length l1_3) (hc1_3 : l1_3.length ≤ c1_3) (hr1_4 : Kd.C k98 w A1_4 l1_4.length l1_4) (hc1_4 : l1_4.length ≤ c1_4) (hr1_5 : Kd.C k27 w A1_5 l1_5.length l1_5) (hc1_5 : l1_5.length ≤ c1_5) (h : minstrelref13_check.f k a0_0 a0_1 l0_2 l0_3 l0_4 l0_5 a1_0 a1_1 l1_2 l1_3 l1_4 l1_5 a2 a3 = some (r1, r2)),
  Calls Tryd.prog 30 #[.agg #[.int .i64 a0_0, .int .i64 a0_1, .slice A0_2 l0_2.length c0_2, .slice A0_3 l0_3.length c0_3, .slice A0_4 l0_4.length c0_4, .slice A0_5 l0_5.length c0_5], .agg #[.int .i64 a1_0, .int .i64 a1_1, .slice A1_2 l1_2.length c1_2, .slice A1_3 l1_3.length c1_3, .slice A1_4 l1_4.length c1_4, .slice A1_5 l1_5.length c1_5], .int .i64 a2, .int .i64 a3] w fun e w' => e = .returned (.tuple #[.int .i64 r1, .int .i64 r2]) ∧ Below w.heap.size w w' := by
 induction k using Nat.strongRecOn with
 | _ k ih =>
 intro a0_0 a0_1 A0_2 c0_2 l0_2 A0_3 c0_3 l0_3 A0_4 c0_4 l0_4 A0_5 c0_5 l0_5 a1_0 a1_1 A1_2 c1_2 l1_2 A1_3 c1_3 l1_3 A1_4 c1_4 l1_4 A1_5 c1_5 l1_5 a2 a3 r1 r2 w hr0_2 hc0_2 hr0_3 hc0_3 hr0_4 hc0_4 hr0_5 hc0_5 hr1_2 hc1_2 hr1_3 hc1_3 hr1_4 hc1_4 hr1_5 hc1_5 h
 cases k with
 | zero => exact absurd h (by simp [minstrelref13_check.f])
 | succ k =>
 simp only [minstrelref13_check.f] at h
 have hu27 := Tryd.underlying27
 have HR0_2 := am hr0_2
 have HC0_2 := am hc0_2
 clear hr0_2 hc0_2
 have HR0_3 := am hr0_3
 have HC0_3 := am hc0_3
 clear hr0_3 hc0_3
 have HR0_4 := am hr0_4
 have HC0_4 := am hc0_4
 clear hr0_4 hc0_4
 have HR0_5 := am hr0_5
 have HC0_5 := am hc0_5
 clear hr0_5 hc0_5
 have HR1_2 := am hr1_2
 have HC1_2 := am hc1_2
 clear hr1_2 hc1_2
 have HR1_3 := am hr1_3
 have HC1_3 := am hc1_3
 clear hr1_3 hc1_3
 have HR1_4 := am hr1_4
 have HC1_4 := am hc1_4
 clear hr1_4 hc1_4
 have HR1_5 := am hr1_5
 have HC1_5 := am hc1_5
 clear hr1_5 hc1_5
 have HB := am (Below.refl w.heap.size w)
 have H : (if a0_1 > 4096 then (minstrelref13_check.j0 k a2 (wrap64 (a3 + 1)) true a0_0 a0_1 l0_2 l0_3 l0_4 l0_5 a1_0 a1_1 l1_2 l1_3 l1_4 l1_5) else (if (l0_3.length : Int) > 131072 then (minstrelref13_check.j0 k a2 (wrap64 (a3 + 1)) true a0_0 a0_1 l0_2 l0_3 l0_4 l0_5 a1_0 a1_1 l1_2 l1_3 l1_4 l1_5) else (if (l0_4.length : Int) > 131072 then (minstrelref13_check.j0 k a2 (wrap64 (a3 + 1)) true a0_0 a0_1 l0_2 l0_3 l0_4 l0_5 a1_0 a1_1 l1_2 l1_3 l1_4 l1_5) else (if (l0_2.length : Int) > 60 then (minstrelref13_check.j0 k a2 (wrap64 (a3 + 1)) true a0_0 a0_1 l0_2 l0_3 l0_4 l0_5 a1_0 a1_1 l1_2 l1_3 l1_4 l1_5) else (if a2 > 100 then (minstrelref13_check.j0 k a2 (wrap64 (a3 + 1)) true a0_0 a0_1 l0_2 l0_3 l0_4 l0_5 a1_0 a1_1 l1_2 l1_3 l1_4 l1_5) else (minstrelref13_check.j0 k a2 (wrap64 (a3 + 1)) (decide ((wrap64 (a3 + 1)) > 4096)) a0_0 a0_1 l0_2 l0_3 l0_4 l0_5 a1_0 a1_1 l1_2 l1_3 l1_4 l1_5)))))) = some (r1, r2) := h
 clear h
 have HC5 := am H
 clear H
 go_enter Tryd.func30, Tryd.ntmps30
 go_upto_region 2 with (first | ((with_reducible refine gate_dst (N := 4) rfl ?_); (try (refine gate_guard (by rfl) ?_; dsimp only)); refine box_event ?hg (N := 4) ?hd (cs := #[.int .i64 a0_0, .int .i64 a0_1, .slice A0_2 l0_2.length c0_2, .slice A0_3 l0_3.length c0_3, .slice A0_4 l0_4.length c0_4, .slice A0_5 l0_5.length c0_5]) (t := 27) ?hr ?_; (case hd => rfl); (case hg => rfl); (case hr => first | (go_simp; done) | (go_simp; rfl)); intro gb160 hg w6 hbox hb; have BK160 := am (hbox); have GW160 := am ((by rw [hg]; exact (below_size pB) : w.heap.size ≤ gb160)); have GE160 := am ((by rw [hg]; exact (below_size pB) : w.heap.size ≤ gb160)); replace HB := am (below_step pB hb); clear hb hbox hg) | ((with_reducible refine gate_dst (N := 5) rfl ?_); (try (refine gate_guard (by rfl) ?_; dsimp only)); refine box_event ?hg (N := 5) ?hd (cs := #[.int .i64 a1_0, .int .i64 a1_1, .slice A1_2 l1_2.length c1_2, .slice A1_3 l1_3.length c1_3, .slice A1_4 l1_4.length c1_4, .slice A1_5 l1_5.length c1_5]) (t := 27) ?hr ?_; (case hd => rfl); (case hg => rfl); (case hr => first | (go_simp; done) | (go_simp; rfl)); intro gb161 hg w7 hbox hb; have BK161 := am (hbox); have GW161 := am ((by rw [hg]; exact (below_size pB) : w.heap.size ≤ gb161)); have GE161 := am ((by rw [hg]; exact (below_size pB) : w.heap.size ≤ gb161)); have NB160_161 := am ((by rw [hg]; exact Nat.ne_of_lt (pkl BK160.out) : gb160 ≠ gb161)); have NB161_160 := am ((by rw [hg]; exact Nat.ne_of_gt (pkl BK160.out) : gb161 ≠ gb160)); replace BK160 := am (pkb BK160.out hb); replace HB := am (below_step pB hb); clear hb hbox hg))
 (try simp only [Act.put, List.setIfInBounds_toArray, List.set_cons_zero, List.set_cons_succ])
 go_cut [44] (fun v44 wc => ∃ (kq : Nat) (x44_4 : Bool), v44 = .bool x44_4 ∧ Aside0 (minstrelref13_check.j0 kq a2 (wrap64 (a3 + 1)) x44_4 a0_0 a0_1 l0_2 l0_3 l0_4 l0_5 a1_0 a1_1 l1_2 l1_3 l1_4 l1_5 = some (r1, r2)) ∧ Aside0 (kq ≤ k) ∧ Aside0 (wc.heap[gb160]? = some (.cells #[.int .i64 a0_0, .int .i64 a0_1, (.slice A0_2 l0_2.length c0_2), (.slice A0_3 l0_3.length c0_3), (.slice A0_4 l0_4.length c0_4), (.slice A0_5 l0_5.length c0_5)] 27 (0, 0))) ∧ Aside0 (wc.heap[gb161]? = some (.cells #[.int .i64 a1_0, .int .i64 a1_1, (.slice A1_2 l1_2.length c1_2), (.slice A1_3 l1_3.length c1_3), (.slice A1_4 l1_4.length c1_4), (.slice A1_5 l1_5.length c1_5)] 27 (0, 0))) ∧ Aside0 (Below w.heap.size w wc))
 case first =>
  have H := HC5.out
  clear HC5
  by_cases c8 : a0_1 > 4096
  ·rw [if_pos c8] at H
   have c8b0 : decide (4096 < a0_1) = true := decide_eq_true c8
   clear c8
   (first | rw [c8b0] | (simp only [i64_w, i32_w]; rw [c8b0]) | rw [c8b1] | (simp only [i64_w, i32_w]; rw [c8b1]) | skip)
   have H' := am H
   clear H
   have hnb9 := NB160_161.out
   have hnc9 := NB161_160.out
   have q10 := cf6 BK160.out
   go_wp2
   go_meet
   case rel => exact ⟨_, (true), (by first | rfl | (simp; done) | (simp [*]; done)), H', ⟨by first | omega | exact Nat.le_refl _⟩, ⟨by (with_reducible repeat (first | refine blk_drewN ?_ _ | refine blk_drew ?_ | refine blk_alloc ?_ _)); exact BK160.out⟩, ⟨by (with_reducible repeat (first | refine blk_drewN ?_ _ | refine blk_drew ?_ | refine blk_alloc ?_ _)); exact BK161.out⟩, ⟨pB⟩⟩
  ·rw [if_neg c8] at H
   have c8b0 : decide (4096 < a0_1) = false := decide_eq_false c8
   clear c8
   (first | rw [c8b0] | (simp only [i64_w, i32_w]; rw [c8b0]) | rw [c8b1] | (simp only [i64_w, i32_w]; rw [c8b1]) | skip)
   by_cases c11 : (l0_3.length : Int) > 131072
   ·rw [if_pos c11] at H
    have c11b0 : decide (131072 < (l0_3.length : Int)) = true := decide_eq_true c11
    have c11b1 : decide (131072 < l0_3.length) = true := decide_eq_true (by omega)
    clear c11
    have H' := am H
    clear H
    have hnb12 := NB160_161.out
    have hnc12 := NB161_160.out
    have q13 := cf6 BK160.out
    go_wp2
    go_meet
    case rel => exact ⟨_, (true), (by first | rfl | (simp; done) | (simp [*]; done)), H', ⟨by first | omega | exact Nat.le_refl _⟩, ⟨by (with_reducible repeat (first | refine blk_drewN ?_ _ | refine blk_drew ?_ | refine blk_alloc ?_ _)); exact BK160.out⟩, ⟨by (with_reducible repeat (first | refine blk_drewN ?_ _ | refine blk_drew ?_ | refine blk_alloc ?_ _)); exact BK161.out⟩, ⟨pB⟩⟩
   ·rw [if_neg c11] at H
    have c11b0 : decide (131072 < (l0_3.length : Int)) = false := decide_eq_false c11
    have c11b1 : decide (131072 < l0_3.length) = false := decide_eq_false (by omega)
    clear c11
    by_cases c14 : (l0_4.length : Int) > 131072
    ·rw [if_pos c14] at H
     have c14b0 : decide (131072 < (l0_4.length : Int)) = true := decide_eq_true c14
     have c14b1 : decide (131072 < l0_4.length) = true := decide_eq_true (by omega)
     clear c14
     have H' := am H
     clear H
     have hnb15 := NB160_161.out
     have hnc15 := NB161_160.out
     have q16 := cf6 BK160.out
     go_wp2
     go_meet
     case rel => exact ⟨_, (true), (by first | rfl | (simp; done) | (simp [*]; done)), H', ⟨by first | omega | exact Nat.le_refl _⟩, ⟨by (with_reducible repeat (first | refine blk_drewN ?_ _ | refine blk_drew ?_ | refine blk_alloc ?_ _)); exact BK160.out⟩, ⟨by (with_reducible repeat (first | refine blk_drewN ?_ _ | refine blk_drew ?_ | refine blk_alloc ?_ _)); exact BK161.out⟩, ⟨pB⟩⟩
    ·rw [if_neg c14] at H
     have c14b0 : decide (131072 < (l0_4.length : Int)) = false := decide_eq_false c14
     have c14b1 : decide (131072 < l0_4.length) = false := decide_eq_false (by omega)
     clear c14
     by_cases c17 : (l0_2.length : Int) > 60
     ·rw [if_pos c17] at H
      have c17b0 : decide (60 < (l0_2.length : Int)) = true := decide_eq_true c17
      have c17b1 : decide (60 < l0_2.length) = true := decide_eq_true (by omega)
      clear c17
      have H' := am H
      clear H
      have hnb18 := NB160_161.out
      have hnc18 := NB161_160.out
      have q19 := cf6 BK160.out
      go_wp2
      go_meet
      case rel => exact ⟨_, (true), (by first | rfl | (simp; done) | (simp [*]; done)), H', ⟨by first | omega | exact Nat.le_refl _⟩, ⟨by (with_reducible repeat (first | refine blk_drewN ?_ _ | refine blk_drew ?_ | refine blk_alloc ?_ _)); exact BK160.out⟩, ⟨by (with_reducible repeat (first | refine blk_drewN ?_ _ | refine blk_drew ?_ | refine blk_alloc ?_ _)); exact BK161.out⟩, ⟨pB⟩⟩
     ·rw [if_neg c17] at H
      have c17b0 : decide (60 < (l0_2.length : Int)) = false := decide_eq_false c17
      have c17b1 : decide (60 < l0_2.length) = false := decide_eq_false (by omega)
      clear c17
      by_cases c20 : a2 > 100
      ·rw [if_pos c20] at H
       have c20b0 : decide (100 < a2) = true := decide_eq_true c20
       clear c20
       have H' := am H
       clear H
       have hnb21 := NB160_161.out
       have hnc21 := NB161_160.out
       have q22 := cf6 BK160.out
       go_wp2
       go_meet
       case rel => exact ⟨_, (true), (by first | rfl | (simp; done) | (simp [*]; done)), H', ⟨by first | omega | exact Nat.le_refl _⟩, ⟨by (with_reducible repeat (first | refine blk_drewN ?_ _ | refine blk_drew ?_ | refine blk_alloc ?_ _)); exact BK160.out⟩, ⟨by (with_reducible repeat (first | refine blk_drewN ?_ _ | refine blk_drew ?_ | refine blk_alloc ?_ _)); exact BK161.out⟩, ⟨pB⟩⟩
      ·rw [if_neg c20] at H
       have c20b0 : decide (100 < a2) = false := decide_eq_false c20
       clear c20
       have H' := am H
       clear H
       have hnb23 := NB160_161.out
       have hnc23 := NB161_160.out
       have q24 := cf6 BK160.out
       go_wp2
       go_meet
       case rel => exact ⟨_, (decide ((wrap64 (a3 + 1)) > 4096)), (by first | rfl | (simp; done) | (simp [*]; done)), H', ⟨by first | omega | exact Nat.le_refl _⟩, ⟨by (with_reducible repeat (first | refine blk_drewN ?_ _ | refine blk_drew ?_ | refine blk_alloc ?_ _)); exact BK160.out⟩, ⟨by (with_reducible repeat (first | refine blk_drewN ?_ _ | refine blk_drew ?_ | refine blk_alloc ?_ _)); exact BK161.out⟩, ⟨pB⟩⟩
 case rest =>
  clear HC5
  try clear c1
  try clear c2
  try clear p2
  try clear c3
  try clear p6
  try clear c8
  try clear c8b0
  try clear c8b1
  try clear c9
  try clear c11
  try clear c11b0
  try clear c11b1
  try clear c12
  try clear c14
  try clear c14b0
  try clear c14b1
  try clear c15
  try clear c17
  try clear c17b0
  try clear c17b1
  try clear c18
  try clear c20
  try clear c20b0
  try clear c21
  try clear c23
  try clear q10 q13 q16 q19 q22 q24
  obtain ⟨kq, x44_4, rfl, HA, HJ4, BK160, BK161, HB⟩ := hcut
  cases kq with
  | zero => exact absurd HA.out (by simp [minstrelref13_check.j0])
  | succ kj4 =>
   have H := HA.out
   clear HA
   simp only [minstrelref13_check.j0] at H
   by_cases c25 : x44_4 = true
   ·subst c25
    rw [if_pos rfl] at H
    simp only [Option.some.injEq, Prod.mk.injEq] at H
    obtain ⟨rfl, rfl⟩ := H
    go_wp2
    go_ret2
    exact ⟨pE, pB⟩
   ·replace c25 := Bool.eq_false_iff.mpr c25
    subst c25
    rw [if_neg (show ¬ (false = true) by decide)] at H
    replace H := Option.bind_eq_some_iff.mp H
    obtain ⟨t162, A260, H⟩ := H
    try dsimp only at H
    have A26 := am A260
    clear A260
    by_cases c27 : t162 = 0
    ·rw [if_pos c27] at H
     have c27b0 : (t162 == 0) = true := beq_iff_eq.mpr c27
     have c27b1 : (t162 != 0) = false := bne_eq_false_iff_eq.mpr c27
     clear c27
     have H' := am H
     clear H
     have hnb28 := NB160_161.out
     have hnc28 := NB161_160.out
     have q29 := cf6 BK160.out
     have q30 := cf6 BK161.out
     go_wp2_with (first | ((with_reducible refine gate_callee (f := 43) rfl ?_); refine goesL_ (some 50) rfl rfl Tryd.func43 (by kernel_rfl) rfl #[.agg #[.int .i64 a0_0, .int .i64 a0_1, .slice A0_2 l0_2.length c0_2, .slice A0_3 l0_3.length c0_3, .slice A0_4 l0_4.length c0_4, .slice A0_5 l0_5.length c0_5], .agg #[.int .i64 a1_0, .int .i64 a1_1, .slice A1_2 l1_2.length c1_2, .slice A1_3 l1_3.length c1_3, .slice A1_4 l1_4.length c1_4, .slice A1_5 l1_5.length c1_5], .bool (a2 == 0)] rfl pM ?_; (with_reducible refine (minstrelref13_alone.calls kj4 a0_0 a0_1 _ _ l0_2 _ _ l0_3 _ _ l0_4 _ _ l0_5 a1_0 a1_1 _ _ l1_2 _ _ l1_3 _ _ l1_4 _ _ l1_5 (a2 == 0) t162 _ ?side1 ?side2 ?side3 ?side4 ?side5 ?side6 ?side7 ?side8 ?side9 ?side10 ?side11 ?side12 ?side13 ?side14 ?side15 ?side16 A26.out).mono ?_); (case side1 => exact pC (Kd.C_below HR0_2.out HB.out)); (case side2 => exact HC0_2.out); (case side3 => exact pC (Kd.C_below HR0_3.out HB.out)); (case side4 => exact HC0_3.out); (case side5 => exact pC (Kd.C_below HR0_4.out HB.out)); (case side6 => exact HC0_4.out); (case side7 => exact pC (Kd.C_below HR0_5.out HB.out)); (case side8 => exact HC0_5.out); (case side9 => exact pC (Kd.C_below HR1_2.out HB.out)); (case side10 => exact HC1_2.out); (case side11 => exact pC (Kd.C_below HR1_3.out HB.out)); (case side12 => exact HC1_3.out); (case side13 => exact pC (Kd.C_below HR1_4.out HB.out)); (case side14 => exact HC1_4.out); (case side15 => exact pC (Kd.C_below HR1_5.out HB.out)); (case side16 => exact HC1_5.out); rintro e w31 ⟨rfl, hb⟩; refine ⟨_, rfl, ?_⟩; replace BK160 := am (pkb BK160.out hb); replace BK161 := am (pkb BK161.out hb); replace HB := am (below_step pB hb); (try clear hb); (try clear hb2); (try clear hk); (try clear hi)))
     go_loopg [3, 11] kj4 (fun kq v3 v11 w' => ∃ (x3_2 : Int) (x11_2 : Int), v3 = .int .i64 x3_2 ∧ v11 = .int .i64 x11_2 ∧ Aside0 (minstrelref13_check.l0 kq a2 x3_2 x11_2 a0_0 a0_1 l0_2 l0_3 l0_4 l0_5 = some (r1, r2)) ∧ Aside0 (kq ≤ kj4) ∧ Aside0 (w'.heap[gb160]? = some (.cells #[.int .i64 a0_0, .int .i64 a0_1, (.slice A0_2 l0_2.length c0_2), (.slice A0_3 l0_3.length c0_3), (.slice A0_4 l0_4.length c0_4), (.slice A0_5 l0_5.length c0_5)] 27 (0, 0))) ∧ Aside0 (w'.heap[gb161]? = some (.cells #[.int .i64 a1_0, .int .i64 a1_1, (.slice A1_2 l1_2.length c1_2), (.slice A1_3 l1_3.length c1_3), (.slice A1_4 l1_4.length c1_4), (.slice A1_5 l1_5.length c1_5)] 27 (0, 0))) ∧ Aside0 (Below w.heap.size w w'))
     case atStart => exact ⟨((wrap64 (a3 + 1))), (0), (by first | rfl | (simp; done) | (simp [*]; done)), (by first | rfl | (simp; done) | (simp [*]; done)), H', ⟨Nat.le_refl _⟩, ⟨by (with_reducible repeat (first | refine blk_drewN ?_ _ | refine blk_drew ?_ | refine blk_alloc ?_ _)); exact BK160.out⟩, ⟨by (with_reducible repeat (first | refine blk_drewN ?_ _ | refine blk_drew ?_ | refine blk_alloc ?_ _)); exact BK161.out⟩, ⟨pB⟩⟩
     case round =>
      clear H'
      try clear c1
      try clear c2
      try clear p2
      try clear c3
      try clear c4
      try clear p6
      try clear c8
      try clear c8b0
      try clear c8b1
      try clear c9
      try clear c11
      try clear c11b0
      try clear c11b1
      try clear c12
      try clear c14
      try clear c14b0
      try clear c14b1
      try clear c15
      try clear c17
      try clear c17b0
      try clear c17b1
      try clear c18
      try clear c20
      try clear c20b0
      try clear c21
      try clear c23
      try clear c25
      try clear c27
      try clear c27b0
      try clear c27b1
      try clear c28
      try clear c30
      try clear q10 q13 q16 q19 q22 q24 q29 q30
      try clear p2
      try clear p6
      obtain ⟨x3_2, x11_2, rfl, rfl, HA, HK2, BK160, BK161, HB⟩ := hrel
      cases gk with
      | zero => exact absurd HA.out (by simp [minstrelref13_check.l0])
      | succ k2 =>
       have H := HA.out
       clear HA
       simp only [minstrelref13_check.l0] at H
       by_cases c32 : x11_2 < (l0_5.length : Int)
       ·rw [if_pos c32] at H
        have c32b0 : decide (x11_2 < (l0_5.length : Int)) = true := decide_eq_true c32
        clear c32
        by_cases c33 : 0 ≤ x11_2
        ·rw [if_pos c33] at H
         have c33b0 : decide (0 ≤ x11_2) = true := decide_eq_true c33
         clear c33
         replace H := Option.bind_eq_some_iff.mp H
         obtain ⟨⟨t164, t165⟩, A340, H⟩ := H
         try dsimp only at H
         have A34 := am A340
         clear A340
         by_cases c35 : t165 = 0
         ·rw [if_pos c35] at H
          have c35b0 : (t165 == 0) = true := beq_iff_eq.mpr c35
          have c35b1 : (t165 != 0) = false := bne_eq_false_iff_eq.mpr c35
          clear c35
          have H' := am H
          clear H
          have hnb36 := NB160_161.out
          have hnc36 := NB161_160.out
          have q37 := cf6 BK160.out
          try go_wp2
          replace BK160 := am (blk_drew BK160.out)
          replace BK161 := am (blk_drew BK161.out)
          replace HB := am (below_drew1 HB.out)
          have p163 : 0 ≤ (x11_2 : Int) := pD
          have q163 : x11_2 < (l0_5.length : Int) := pD
          obtain ⟨ad163, A163_2, c163_2, A163_3, c163_3, A163_4, c163_4, A163_5, c163_5, e163, hx163_0, hx163_1, hx163_2, hx163_3, hx163_4, hx163_5, hl163_2, hi163_2, hl163_3, hi163_3, hl163_4, hi163_4, hl163_5, hi163_5⟩ := at_T27 HR0_5.out x11_2 p163 q163
          have hw163_5 := hx163_5
          have hw163_4 := hx163_4
          have hw163_3 := hx163_3
          have hw163_2 := hx163_2
          have hw163_1 := hx163_1
          have hw163_0 := hx163_0
          cases e163
          replace hx163_0 := (HB.out.cell (World.block_lt_of_cell? w _ hx163_0)).trans hx163_0
          replace hx163_1 := (HB.out.cell (World.block_lt_of_cell? w _ hx163_1)).trans hx163_1
          replace hx163_2 := (HB.out.cell (World.block_lt_of_cell? w _ hx163_2)).trans hx163_2
          replace hx163_3 := (HB.out.cell (World.block_lt_of_cell? w _ hx163_3)).trans hx163_3
          replace hx163_4 := (HB.out.cell (World.block_lt_of_cell? w _ hx163_4)).trans hx163_4
          replace hx163_5 := (HB.out.cell (World.block_lt_of_cell? w _ hx163_5)).trans hx163_5
          have HR163_2 := am hi163_2
          have HC163_2 := am hl163_2
          clear hi163_2 hl163_2
          have HR163_3 := am hi163_3
          have HC163_3 := am hl163_3
          clear hi163_3 hl163_3
          have HR163_4 := am hi163_4
          have HC163_4 := am hl163_4
          clear hi163_4 hl163_4
          have HR163_5 := am hi163_5
          have HC163_5 := am hl163_5
          clear hi163_5 hl163_5
          replace p163 := eq_true p163
          replace q163 := eq_true q163
          refine start_ (n := 15) (S := fun w' => w'.cell? ⟨gb160, 0, none⟩ = some (.int .i64 a0_0) ∧ w'.cell? ⟨gb160, 1, none⟩ = some (.int .i64 a0_1) ∧ w'.cell? ⟨gb160, 2, none⟩ = some (.slice A0_2 l0_2.length c0_2) ∧ w'.cell? ⟨gb160, 3, none⟩ = some (.slice A0_3 l0_3.length c0_3) ∧ w'.cell? ⟨gb160, 4, none⟩ = some (.slice A0_4 l0_4.length c0_4) ∧ w'.cell? ⟨gb160, 5, none⟩ = some (.slice (some ad163) l0_5.length c0_5) ∧ w'.cell? (ad163.add ((x11_2).toNat * 6)) = some (.int .i64 ((rd_T27 l0_5 x11_2).f0)) ∧ w'.cell? ⟨(ad163.add ((x11_2).toNat * 6)).block, (ad163.add ((x11_2).toNat * 6)).off + 1, none⟩ = some (.int .i64 ((rd_T27 l0_5 x11_2).f1)) ∧ w'.cell? ⟨(ad163.add ((x11_2).toNat * 6)).block, (ad163.add ((x11_2).toNat * 6)).off + 2, none⟩ = some (.slice A163_2 ((rd_T27 l0_5 x11_2).f2).length c163_2) ∧ w'.cell? ⟨(ad163.add ((x11_2).toNat * 6)).block, (ad163.add ((x11_2).toNat * 6)).off + 3, none⟩ = some (.slice A163_3 ((rd_T27 l0_5 x11_2).f3).length c163_3) ∧ w'.cell? ⟨(ad163.add ((x11_2).toNat * 6)).block, (ad163.add ((x11_2).toNat * 6)).off + 4, none⟩ = some (.slice A163_4 ((rd_T27 l0_5 x11_2).f4).length c163_4) ∧ w'.cell? ⟨(ad163.add ((x11_2).toNat * 6)).block, (ad163.add ((x11_2).toNat * 6)).off + 5, none⟩ = some (.slice A163_5 ((rd_T27 l0_5 x11_2).f5).length c163_5)) (ds := []) (bm 15 0) (by kernel_rfl) rfl rfl ⟨cz0 BK160.out, cz1 BK160.out, cz2 BK160.out, cz3 BK160.out, cz4 BK160.out, cz5 BK160.out, ((HB.out.cell (World.block_lt_of_cell? w _ hw163_0)).trans hw163_0), ((HB.out.cell (World.block_lt_of_cell? w _ hw163_1)).trans hw163_1), ((HB.out.cell (World.block_lt_of_cell? w _ hw163_2)).trans hw163_2), ((HB.out.cell (World.block_lt_of_cell? w _ hw163_3)).trans hw163_3), ((HB.out.cell (World.block_lt_of_cell? w _ hw163_4)).trans hw163_4), ((HB.out.cell (World.block_lt_of_cell? w _ hw163_5)).trans hw163_5)⟩ (fun hHeld => ?_); refine with_tabW minstrelref13_check.tab10 minstrelref13_check.bits10 (fun HT_ HW_ => ?_)
          generalize wr.drew = w38 at BK160 BK161 HB HR163_2 HR163_3 HR163_4 HR163_5 hx163_0 hx163_1 hx163_2 hx163_3 hx163_4 hx163_5 hHeld ⊢
          refine pure_ (i := 0) (N := some 63) (v := ?_) (a' := ?_) (bm 15 1) rfl rfl (any_of HT_.out (by kernel_rfl)) (fun _ _ _ h => h) (Or.inl ⟨by kernel_rfl, ?_⟩) ?_ ?_
          rotate_left
          ·intro w'
           go_simp
           with_reducible rfl
          rotate_left
          ·exact pA
          refine pure_ (i := 2) (N := some 65) (v := ?_) (a' := ?_) (bm 15 5) rfl rfl (any_of HT_.out (by kernel_rfl)) (fun _ _ _ h => h) (Or.inl ⟨by kernel_rfl, ?_⟩) ?_ ?_
          rotate_left
          ·intro w'
           go_simp
           with_reducible rfl
          rotate_left
          ·exact pA
          refine pure_ (i := 6) (N := some 69) (v := ?_) (a' := ?_) (bm 15 69) rfl rfl (any_of HT_.out (by kernel_rfl)) (fun _ _ _ h => h) (Or.inl ⟨by kernel_rfl, ?_⟩) ?_ ?_
          rotate_left
          ·intro w'
           go_simp
           with_reducible rfl
          rotate_left
          ·exact pA
          refine pure_ (i := 7) (N := some 70) (v := ?_) (a' := ?_) (bm 15 197) rfl rfl (any_of HT_.out (by kernel_rfl)) (fun _ _ _ h => h) (Or.inl ⟨by kernel_rfl, ?_⟩) ?_ ?_
          rotate_left
          ·intro w'
           go_simp
           with_reducible rfl
          rotate_left
          ·exact pA
          refine pure_ (i := 8) (N := some 71) (v := ?_) (a' := ?_) (bm 15 453) rfl rfl (any_of HT_.out (by kernel_rfl)) (fun _ _ _ h => h) (Or.inl ⟨by kernel_rfl, ?_⟩) ?_ ?_
          rotate_left
          ·intro w'
           go_simp
           with_reducible rfl
          rotate_left
          ·exact pA
          refine take_ (i := 1) (N := some 64) (v := ?_) (a' := ?_) (bm 15 455) rfl rfl (take_ofW HT_.out HW_.out (by kernel_rfl)) (fun _ _ _ h => h) (Or.inl ⟨by kernel_rfl, ?_⟩) hHeld ?_ ?_
          rotate_left
          ·rintro w' ⟨s0, s1, s2, s3, s4, s5, s6, s7, s8, s9, s10, s11⟩
           go_simp
           with_reducible rfl
          rotate_left
          ·exact pA
          refine pure_ (i := 3) (N := some 66) (v := ?_) (a' := ?_) (bm 15 463) rfl rfl (any_of HT_.out (by kernel_rfl)) (fun _ _ _ h => h) (Or.inl ⟨by kernel_rfl, ?_⟩) ?_ ?_
          rotate_left
          ·intro w'
           go_simp
           with_reducible rfl
          rotate_left
          ·exact pA
          refine take_ (i := 4) (N := some 67) (v := ?_) (a' := ?_) (bm 15 479) rfl rfl (take_ofW HT_.out HW_.out (by kernel_rfl)) (fun _ _ _ h => h) (Or.inl ⟨by kernel_rfl, ?_⟩) hHeld ?_ ?_
          rotate_left
          ·rintro w' ⟨s0, s1, s2, s3, s4, s5, s6, s7, s8, s9, s10, s11⟩
           go_simp
           with_reducible rfl
          rotate_left
          ·exact pA
          refine take_ (i := 5) (N := some 68) (v := ?_) (a' := ?_) (bm 15 511) rfl rfl (take_ofW HT_.out HW_.out (by kernel_rfl)) (fun _ _ _ h => h) (Or.inl ⟨by kernel_rfl, ?_⟩) hHeld ?_ ?_
          rotate_left
          ·rintro w' ⟨s0, s1, s2, s3, s4, s5, s6, s7, s8, s9, s10, s11⟩
           go_simp
           with_reducible rfl
          rotate_left
          ·exact pA
          refine one_ (i := 9) (N := some 72) (bm 15 1023) rfl rfl (one_of HT_.out (by kernel_rfl)) (by decide) (fun K hK => ?_)
          refine goes_ Tryd.func30 (by kernel_rfl) rfl #[.agg #[.int .i64 ((rd_T27 l0_5 x11_2).f0), .int .i64 ((rd_T27 l0_5 x11_2).f1), .slice A163_2 ((rd_T27 l0_5 x11_2).f2).length c163_2, .slice A163_3 ((rd_T27 l0_5 x11_2).f3).length c163_3, .slice A163_4 ((rd_T27 l0_5 x11_2).f4).length c163_4, .slice A163_5 ((rd_T27 l0_5 x11_2).f5).length c163_5], .agg #[.int .i64 a0_0, .int .i64 a0_1, .slice A0_2 l0_2.length c0_2, .slice A0_3 l0_3.length c0_3, .slice A0_4 l0_4.length c0_4, .slice (some ad163) l0_5.length c0_5], .int .i64 (wrap64 (a2 + 1)), .int .i64 x3_2] (by rfl) rfl rfl pM ?_
          with_reducible refine (ih k2 (by have := HJ4.out; have := HK2.out; omega) ((rd_T27 l0_5 x11_2).f0) ((rd_T27 l0_5 x11_2).f1) _ _ ((rd_T27 l0_5 x11_2).f2) _ _ ((rd_T27 l0_5 x11_2).f3) _ _ ((rd_T27 l0_5 x11_2).f4) _ _ ((rd_T27 l0_5 x11_2).f5) a0_0 a0_1 _ _ l0_2 _ _ l0_3 _ _ l0_4 _ _ l0_5 (wrap64 (a2 + 1)) x3_2 t164 t165 _ ?side1 ?side2 ?side3 ?side4 ?side5 ?side6 ?side7 ?side8 ?side9 ?side10 ?side11 ?side12 ?side13 ?side14 ?side15 ?side16 A34.out).mono ?_
          (case side1 => exact pC (Kd.C_below HR163_2.out HB.out))
          (case side2 => exact HC163_2.out)
          (case side3 => exact pC (Kd.C_below HR163_3.out HB.out))
          (case side4 => exact HC163_3.out)
          (case side5 => exact pC (Kd.C_below HR163_4.out HB.out))
          (case side6 => exact HC163_4.out)
          (case side7 => exact pC (Kd.C_below HR163_5.out HB.out))
          (case side8 => exact HC163_5.out)
          (case side9 => exact pC (Kd.C_below HR0_2.out HB.out))
          (case side10 => exact HC0_2.out)
          (case side11 => exact pC (Kd.C_below HR0_3.out HB.out))
          (case side12 => exact HC0_3.out)
          (case side13 => exact pC (Kd.C_below HR0_4.out HB.out))
          (case side14 => exact HC0_4.out)
          (case side15 => exact pC (Kd.C_below HR0_5.out HB.out))
          (case side16 => exact HC0_5.out)
          rintro e w39 ⟨rfl, hb⟩
          refine ⟨_, rfl, ?_⟩
          have n0_ := am (pkb BK160.out hb)
          have n1_ := am (pkb BK161.out hb)
          have n2_ := am (below_step pB hb)
          clear BK160 BK161 HB; have BK160 := n0_; have BK161 := n1_; have HB := n2_; clear n0_ n1_ n2_; (try clear hb); (try clear hb2); (try clear hk); (try clear hi)
          refine hK.out _ _ ⟨cz0 BK160.out, cz1 BK160.out, cz2 BK160.out, cz3 BK160.out, cz4 BK160.out, cz5 BK160.out, ((HB.out.cell (World.block_lt_of_cell? w _ hw163_0)).trans hw163_0), ((HB.out.cell (World.block_lt_of_cell? w _ hw163_1)).trans hw163_1), ((HB.out.cell (World.block_lt_of_cell? w _ hw163_2)).trans hw163_2), ((HB.out.cell (World.block_lt_of_cell? w _ hw163_3)).trans hw163_3), ((HB.out.cell (World.block_lt_of_cell? w _ hw163_4)).trans hw163_4), ((HB.out.cell (World.block_lt_of_cell? w _ hw163_5)).trans hw163_5)⟩ (fun hHeld => ?_)
          clear hK K
          refine norm_ (a' := ?_) ?_ ?_
          rotate_left
          ·show Act.put _ (some 72) _ = _
           exact pA
          refine pure_ (i := 10) (N := some 62) (v := ?_) (a' := ?_) (bm 15 2047) rfl rfl (any_of HT_.out (by kernel_rfl)) (fun _ _ _ h => h) (Or.inl ⟨by kernel_rfl, ?_⟩) ?_ ?_
          rotate_left
          ·intro w'
           go_simp
           with_reducible rfl
          rotate_left
          ·exact pA
          refine pure_ (i := 11) (N := some 73) (v := ?_) (a' := ?_) (bm 15 4095) rfl rfl (any_of HT_.out (by kernel_rfl)) (fun _ _ _ h => h) (Or.inl ⟨by kernel_rfl, ?_⟩) ?_ ?_
          rotate_left
          ·intro w'
           go_simp
           with_reducible rfl
          rotate_left
          ·exact pA
          refine pure_ (i := 12) (N := some 74) (v := ?_) (a' := ?_) (bm 15 8191) rfl rfl (any_of HT_.out (by kernel_rfl)) (fun _ _ _ h => h) (Or.inl ⟨by kernel_rfl, ?_⟩) ?_ ?_
          rotate_left
          ·intro w'
           go_simp
           with_reducible rfl
          rotate_left
          ·exact pA
          refine pure_ (i := 13) (N := some 12) (v := ?_) (a' := ?_) (bm 15 16383) rfl rfl (any_of HT_.out (by kernel_rfl)) (fun _ _ _ h => h) (Or.inl ⟨by kernel_rfl, ?_⟩) ?_ ?_
          rotate_left
          ·intro w'
           go_simp
           with_reducible rfl
          rotate_left
          ·exact pA
          refine pure_ (i := 14) (N := some 13) (v := ?_) (a' := ?_) (bm 15 32767) rfl rfl (any_of HT_.out (by kernel_rfl)) (fun _ _ _ h => h) (Or.inl ⟨by kernel_rfl, ?_⟩) ?_ ?_
          rotate_left
          ·intro w'
           go_simp
           with_reducible rfl
          rotate_left
          ·exact pA
          refine done_ (done_of HT_.out (by kernel_rfl)) ?_
          try go_wp2
          go_roundg k2
          case measure => have := HJ4.out; have := HK2.out; omega
          case rel => exact ⟨(t164), (wrap64 (x11_2 + 1)), (by first | rfl | (simp; done) | (simp [*]; done)), (by first | rfl | (simp; done) | (simp [*]; done)), H', ⟨by have := HJ4.out; have := HK2.out; omega⟩, ⟨by (with_reducible repeat (first | refine blk_drewN ?_ _ | refine blk_drew ?_ | refine blk_alloc ?_ _)); exact BK160.out⟩, ⟨by (with_reducible repeat (first | refine blk_drewN ?_ _ | refine blk_drew ?_ | refine blk_alloc ?_ _)); exact BK161.out⟩, ⟨pB⟩⟩
         ·rw [if_neg c35] at H
          have c35b0 : (t165 == 0) = false := beq_eq_false_iff_ne.mpr c35
          have c35b1 : (t165 != 0) = true := bne_iff_ne.mpr c35
          simp only [Option.some.injEq, Prod.mk.injEq] at H
          obtain ⟨rfl, rfl⟩ := H
          have hnb40 := NB160_161.out
          have hnc40 := NB161_160.out
          have q41 := cf6 BK160.out
          try go_wp2
          replace BK160 := am (blk_drew BK160.out)
          replace BK161 := am (blk_drew BK161.out)
          replace HB := am (below_drew1 HB.out)
          have p163 : 0 ≤ (x11_2 : Int) := pD
          have q163 : x11_2 < (l0_5.length : Int) := pD
          obtain ⟨ad163, A163_2, c163_2, A163_3, c163_3, A163_4, c163_4, A163_5, c163_5, e163, hx163_0, hx163_1, hx163_2, hx163_3, hx163_4, hx163_5, hl163_2, hi163_2, hl163_3, hi163_3, hl163_4, hi163_4, hl163_5, hi163_5⟩ := at_T27 HR0_5.out x11_2 p163 q163
          have hw163_5 := hx163_5
          have hw163_4 := hx163_4
          have hw163_3 := hx163_3
          have hw163_2 := hx163_2
          have hw163_1 := hx163_1
          have hw163_0 := hx163_0
          cases e163
          replace hx163_0 := (HB.out.cell (World.block_lt_of_cell? w _ hx163_0)).trans hx163_0
          replace hx163_1 := (HB.out.cell (World.block_lt_of_cell? w _ hx163_1)).trans hx163_1
          replace hx163_2 := (HB.out.cell (World.block_lt_of_cell? w _ hx163_2)).trans hx163_2
          replace hx163_3 := (HB.out.cell (World.block_lt_of_cell? w _ hx163_3)).trans hx163_3
          replace hx163_4 := (HB.out.cell (World.block_lt_of_cell? w _ hx163_4)).trans hx163_4
          replace hx163_5 := (HB.out.cell (World.block_lt_of_cell? w _ hx163_5)).trans hx163_5
          have HR163_2 := am hi163_2
          have HC163_2 := am hl163_2
          clear hi163_2 hl163_2
          have HR163_3 := am hi163_3
          have HC163_3 := am hl163_3
          clear hi163_3 hl163_3
          have HR163_4 := am hi163_4
          have HC163_4 := am hl163_4
          clear hi163_4 hl163_4
          have HR163_5 := am hi163_5
          have HC163_5 := am hl163_5
          clear hi163_5 hl163_5
          replace p163 := eq_true p163
          replace q163 := eq_true q163
          refine start_ (n := 15) (S := fun w' => w'.cell? ⟨gb160, 0, none⟩ = some (.int .i64 a0_0) ∧ w'.cell? ⟨gb160, 1, none⟩ = some (.int .i64 a0_1) ∧ w'.cell? ⟨gb160, 2, none⟩ = some (.slice A0_2 l0_2.length c0_2) ∧ w'.cell? ⟨gb160, 3, none⟩ = some (.slice A0_3 l0_3.length c0_3) ∧ w'.cell? ⟨gb160, 4, none⟩ = some (.slice A0_4 l0_4.length c0_4) ∧ w'.cell? ⟨gb160, 5, none⟩ = some (.slice (some ad163) l0_5.length c0_5) ∧ w'.cell? (ad163.add ((x11_2).toNat * 6)) = some (.int .i64 ((rd_T27 l0_5 x11_2).f0)) ∧ w'.cell? ⟨(ad163.add ((x11_2).toNat * 6)).block, (ad163.add ((x11_2).toNat * 6)).off + 1, none⟩ = some (.int .i64 ((rd_T27 l0_5 x11_2).f1)) ∧ w'.cell? ⟨(ad163.add ((x11_2).toNat * 6)).block, (ad163.add ((x11_2).toNat * 6)).off + 2, none⟩ = some (.slice A163_2 ((rd_T27 l0_5 x11_2).f2).length c163_2) ∧ w'.cell? ⟨(ad163.add ((x11_2).toNat * 6)).block, (ad163.add ((x11_2).toNat * 6)).off + 3, none⟩ = some (.slice A163_3 ((rd_T27 l0_5 x11_2).f3).length c163_3) ∧ w'.cell? ⟨(ad163.add ((x11_2).toNat * 6)).block, (ad163.add ((x11_2).toNat * 6)).off + 4, none⟩ = some (.slice A163_4 ((rd_T27 l0_5 x11_2).f4).length c163_4) ∧ w'.cell? ⟨(ad163.add ((x11_2).toNat * 6)).block, (ad163.add ((x11_2).toNat * 6)).off + 5, none⟩ = some (.slice A163_5 ((rd_T27 l0_5 x11_2).f5).length c163_5)) (ds := []) (bm 15 0) (by kernel_rfl) rfl rfl ⟨cz0 BK160.out, cz1 BK160.out, cz2 BK160.out, cz3 BK160.out, cz4 BK160.out, cz5 BK160.out, ((HB.out.cell (World.block_lt_of_cell? w _ hw163_0)).trans hw163_0), ((HB.out.cell (World.block_lt_of_cell? w _ hw163_1)).trans hw163_1), ((HB.out.cell (World.block_lt_of_cell? w _ hw163_2)).trans hw163_2), ((HB.out.cell (World.block_lt_of_cell? w _ hw163_3)).trans hw163_3), ((HB.out.cell (World.block_lt_of_cell? w _ hw163_4)).trans hw163_4), ((HB.out.cell (World.block_lt_of_cell? w _ hw163_5)).trans hw163_5)⟩ (fun hHeld => ?_); refine with_tabW minstrelref13_check.tab10 minstrelref13_check.bits10 (fun HT_ HW_ => ?_)
          generalize wr.drew = w42 at BK160 BK161 HB HR163_2 HR163_3 HR163_4 HR163_5 hx163_0 hx163_1 hx163_2 hx163_3 hx163_4 hx163_5 hHeld ⊢
          refine pure_ (i := 0) (N := some 63) (v := ?_) (a' := ?_) (bm 15 1) rfl rfl (any_of HT_.out (by kernel_rfl)) (fun _ _ _ h => h) (Or.inl ⟨by kernel_rfl, ?_⟩) ?_ ?_
          rotate_left
          ·intro w'
           go_simp
           with_reducible rfl
          rotate_left
          ·exact pA
          refine pure_ (i := 2) (N := some 65) (v := ?_) (a' := ?_) (bm 15 5) rfl rfl (any_of HT_.out (by kernel_rfl)) (fun _ _ _ h => h) (Or.inl ⟨by kernel_rfl, ?_⟩) ?_ ?_
          rotate_left
          ·intro w'
           go_simp
           with_reducible rfl
          rotate_left
          ·exact pA
          refine pure_ (i := 6) (N := some 69) (v := ?_) (a' := ?_) (bm 15 69) rfl rfl (any_of HT_.out (by kernel_rfl)) (fun _ _ _ h => h) (Or.inl ⟨by kernel_rfl, ?_⟩) ?_ ?_
          rotate_left
          ·intro w'
           go_simp
           with_reducible rfl
          rotate_left
          ·exact pA
          refine pure_ (i := 7) (N := some 70) (v := ?_) (a' := ?_) (bm 15 197) rfl rfl (any_of HT_.out (by kernel_rfl)) (fun _ _ _ h => h) (Or.inl ⟨by kernel_rfl, ?_⟩) ?_ ?_
          rotate_left
          ·intro w'
           go_simp
           with_reducible rfl
          rotate_left
          ·exact pA
          refine pure_ (i := 8) (N := some 71) (v := ?_) (a' := ?_) (bm 15 453) rfl rfl (any_of HT_.out (by kernel_rfl)) (fun _ _ _ h => h) (Or.inl ⟨by kernel_rfl, ?_⟩) ?_ ?_
          rotate_left
          ·intro w'
           go_simp
           with_reducible rfl
          rotate_left
          ·exact pA
          refine take_ (i := 1) (N := some 64) (v := ?_) (a' := ?_) (bm 15 455) rfl rfl (take_ofW HT_.out HW_.out (by kernel_rfl)) (fun _ _ _ h => h) (Or.inl ⟨by kernel_rfl, ?_⟩) hHeld ?_ ?_
          rotate_left
          ·rintro w' ⟨s0, s1, s2, s3, s4, s5, s6, s7, s8, s9, s10, s11⟩
           go_simp
           with_reducible rfl
          rotate_left
          ·exact pA
          refine pure_ (i := 3) (N := some 66) (v := ?_) (a' := ?_) (bm 15 463) rfl rfl (any_of HT_.out (by kernel_rfl)) (fun _ _ _ h => h) (Or.inl ⟨by kernel_rfl, ?_⟩) ?_ ?_
          rotate_left
          ·intro w'
           go_simp
           with_reducible rfl
          rotate_left
          ·exact pA
          refine take_ (i := 4) (N := some 67) (v := ?_) (a' := ?_) (bm 15 479) rfl rfl (take_ofW HT_.out HW_.out (by kernel_rfl)) (fun _ _ _ h => h) (Or.inl ⟨by kernel_rfl, ?_⟩) hHeld ?_ ?_
          rotate_left
          ·rintro w' ⟨s0, s1, s2, s3, s4, s5, s6, s7, s8, s9, s10, s11⟩
           go_simp
           with_reducible rfl
          rotate_left
          ·exact pA
          refine take_ (i := 5) (N := some 68) (v := ?_) (a' := ?_) (bm 15 511) rfl rfl (take_ofW HT_.out HW_.out (by kernel_rfl)) (fun _ _ _ h => h) (Or.inl ⟨by kernel_rfl, ?_⟩) hHeld ?_ ?_
          rotate_left
          ·rintro w' ⟨s0, s1, s2, s3, s4, s5, s6, s7, s8, s9, s10, s11⟩
           go_simp
           with_reducible rfl
          rotate_left
          ·exact pA
          refine one_ (i := 9) (N := some 72) (bm 15 1023) rfl rfl (one_of HT_.out (by kernel_rfl)) (by decide) (fun K hK => ?_)
          refine goes_ Tryd.func30 (by kernel_rfl) rfl #[.agg #[.int .i64 ((rd_T27 l0_5 x11_2).f0), .int .i64 ((rd_T27 l0_5 x11_2).f1), .slice A163_2 ((rd_T27 l0_5 x11_2).f2).length c163_2, .slice A163_3 ((rd_T27 l0_5 x11_2).f3).length c163_3, .slice A163_4 ((rd_T27 l0_5 x11_2).f4).length c163_4, .slice A163_5 ((rd_T27 l0_5 x11_2).f5).length c163_5], .agg #[.int .i64 a0_0, .int .i64 a0_1, .slice A0_2 l0_2.length c0_2, .slice A0_3 l0_3.length c0_3, .slice A0_4 l0_4.length c0_4, .slice (some ad163) l0_5.length c0_5], .int .i64 (wrap64 (a2 + 1)), .int .i64 x3_2] (by rfl) rfl rfl pM ?_
          with_reducible refine (ih k2 (by have := HJ4.out; have := HK2.out; omega) ((rd_T27 l0_5 x11_2).f0) ((rd_T27 l0_5 x11_2).f1) _ _ ((rd_T27 l0_5 x11_2).f2) _ _ ((rd_T27 l0_5 x11_2).f3) _ _ ((rd_T27 l0_5 x11_2).f4) _ _ ((rd_T27 l0_5 x11_2).f5) a0_0 a0_1 _ _ l0_2 _ _ l0_3 _ _ l0_4 _ _ l0_5 (wrap64 (a2 + 1)) x3_2 t164 t165 _ ?side1 ?side2 ?side3 ?side4 ?side5 ?side6 ?side7 ?side8 ?side9 ?side10 ?side11 ?side12 ?side13 ?side14 ?side15 ?side16 A34.out).mono ?_
          (case side1 => exact pC (Kd.C_below HR163_2.out HB.out))
          (case side2 => exact HC163_2.out)
          (case side3 => exact pC (Kd.C_below HR163_3.out HB.out))
          (case side4 => exact HC163_3.out)
          (case side5 => exact pC (Kd.C_below HR163_4.out HB.out))
          (case side6 => exact HC163_4.out)
          (case side7 => exact pC (Kd.C_below HR163_5.out HB.out))
          (case side8 => exact HC163_5.out)
          (case side9 => exact pC (Kd.C_below HR0_2.out HB.out))
          (case side10 => exact HC0_2.out)
          (case side11 => exact pC (Kd.C_below HR0_3.out HB.out))
          (case side12 => exact HC0_3.out)
          (case side13 => exact pC (Kd.C_below HR0_4.out HB.out))
          (case side14 => exact HC0_4.out)
          (case side15 => exact pC (Kd.C_below HR0_5.out HB.out))
          (case side16 => exact HC0_5.out)
          rintro e w43 ⟨rfl, hb⟩
          refine ⟨_, rfl, ?_⟩
          have n0_ := am (pkb BK160.out hb)
          have n1_ := am (pkb BK161.out hb)
          have n2_ := am (below_step pB hb)
          clear BK160 BK161 HB; have BK160 := n0_; have BK161 := n1_; have HB := n2_; clear n0_ n1_ n2_; (try clear hb); (try clear hb2); (try clear hk); (try clear hi)
          refine hK.out _ _ ⟨cz0 BK160.out, cz1 BK160.out, cz2 BK160.out, cz3 BK160.out, cz4 BK160.out, cz5 BK160.out, ((HB.out.cell (World.block_lt_of_cell? w _ hw163_0)).trans hw163_0), ((HB.out.cell (World.block_lt_of_cell? w _ hw163_1)).trans hw163_1), ((HB.out.cell (World.block_lt_of_cell? w _ hw163_2)).trans hw163_2), ((HB.out.cell (World.block_lt_of_cell? w _ hw163_3)).trans hw163_3), ((HB.out.cell (World.block_lt_of_cell? w _ hw163_4)).trans hw163_4), ((HB.out.cell (World.block_lt_of_cell? w _ hw163_5)).trans hw163_5)⟩ (fun hHeld => ?_)
          clear hK K
          refine norm_ (a' := ?_) ?_ ?_
          rotate_left
          ·show Act.put _ (some 72) _ = _
           exact pA
          refine pure_ (i := 10) (N := some 62) (v := ?_) (a' := ?_) (bm 15 2047) rfl rfl (any_of HT_.out (by kernel_rfl)) (fun _ _ _ h => h) (Or.inl ⟨by kernel_rfl, ?_⟩) ?_ ?_
          rotate_left
          ·intro w'
           go_simp
           with_reducible rfl
          rotate_left
          ·exact pA
          refine pure_ (i := 11) (N := some 73) (v := ?_) (a' := ?_) (bm 15 4095) rfl rfl (any_of HT_.out (by kernel_rfl)) (fun _ _ _ h => h) (Or.inl ⟨by kernel_rfl, ?_⟩) ?_ ?_
          rotate_left
          ·intro w'
           go_simp
           with_reducible rfl
          rotate_left
          ·exact pA
          refine pure_ (i := 12) (N := some 74) (v := ?_) (a' := ?_) (bm 15 8191) rfl rfl (any_of HT_.out (by kernel_rfl)) (fun _ _ _ h => h) (Or.inl ⟨by kernel_rfl, ?_⟩) ?_ ?_
          rotate_left
          ·intro w'
           go_simp
           with_reducible rfl
          rotate_left
          ·exact pA
          refine pure_ (i := 13) (N := some 12) (v := ?_) (a' := ?_) (bm 15 16383) rfl rfl (any_of HT_.out (by kernel_rfl)) (fun _ _ _ h => h) (Or.inl ⟨by kernel_rfl, ?_⟩) ?_ ?_
          rotate_left
          ·intro w'
           go_simp
           with_reducible rfl
          rotate_left
          ·exact pA
          refine pure_ (i := 14) (N := some 13) (v := ?_) (a' := ?_) (bm 15 32767) rfl rfl (any_of HT_.out (by kernel_rfl)) (fun _ _ _ h => h) (Or.inl ⟨by kernel_rfl, ?_⟩) ?_ ?_
          rotate_left
          ·intro w'
           go_simp
           with_reducible rfl
          rotate_left
          ·exact pA
          refine done_ (done_of HT_.out (by kernel_rfl)) ?_
          try go_wp2
          go_ret2
          exact ⟨pE, pB⟩
        ·rw [if_neg c33] at H
         exact absurd H (by simp)
       ·rw [if_neg c32] at H
        have c32b0 : decide (x11_2 < (l0_5.length : Int)) = false := decide_eq_false c32
        clear c32
        simp only [Option.some.injEq, Prod.mk.injEq] at H
        obtain ⟨rfl, rfl⟩ := H
        have hnb44 := NB160_161.out
        have hnc44 := NB161_160.out
        have q45 := cf6 BK160.out
        go_wp2
        go_ret2
        exact ⟨pE, pB⟩
    ·rw [if_neg c27] at H
     have c27b0 : (t162 == 0) = false := beq_eq_false_iff_ne.mpr c27
     have c27b1 : (t162 != 0) = true := bne_iff_ne.mpr c27
     simp only [Option.some.injEq, Prod.mk.injEq] at H
     obtain ⟨rfl, rfl⟩ := H
     have hnb46 := NB160_161.out
     have hnc46 := NB161_160.out
     have q47 := cf6 BK160.out
     have q48 := cf6 BK161.out
     go_wp2_with (first | ((with_reducible refine gate_callee (f := 43) rfl ?_); refine goesL_ (some 50) rfl rfl Tryd.func43 (by kernel_rfl) rfl #[.agg #[.int .i64 a0_0, .int .i64 a0_1, .slice A0_2 l0_2.length c0_2, .slice A0_3 l0_3.length c0_3, .slice A0_4 l0_4.length c0_4, .slice A0_5 l0_5.length c0_5], .agg #[.int .i64 a1_0, .int .i64 a1_1, .slice A1_2 l1_2.length c1_2, .slice A1_3 l1_3.length c1_3, .slice A1_4 l1_4.length c1_4, .slice A1_5 l1_5.length c1_5], .bool (a2 == 0)] rfl pM ?_; (with_reducible refine (minstrelref13_alone.calls kj4 a0_0 a0_1 _ _ l0_2 _ _ l0_3 _ _ l0_4 _ _ l0_5 a1_0 a1_1 _ _ l1_2 _ _ l1_3 _ _ l1_4 _ _ l1_5 (a2 == 0) t162 _ ?side1 ?side2 ?side3 ?side4 ?side5 ?side6 ?side7 ?side8 ?side9 ?side10 ?side11 ?side12 ?side13 ?side14 ?side15 ?side16 A26.out).mono ?_); (case side1 => exact pC (Kd.C_below HR0_2.out HB.out)); (case side2 => exact HC0_2.out); (case side3 => exact pC (Kd.C_below HR0_3.out HB.out)); (case side4 => exact HC0_3.out); (case side5 => exact pC (Kd.C_below HR0_4.out HB.out)); (case side6 => exact HC0_4.out); (case side7 => exact pC (Kd.C_below HR0_5.out HB.out)); (case side8 => exact HC0_5.out); (case side9 => exact pC (Kd.C_below HR1_2.out HB.out)); (case side10 => exact HC1_2.out); (case side11 => exact pC (Kd.C_below HR1_3.out HB.out)); (case side12 => exact HC1_3.out); (case side13 => exact pC (Kd.C_below HR1_4.out HB.out)); (case side14 => exact HC1_4.out); (case side15 => exact pC (Kd.C_below HR1_5.out HB.out)); (case side16 => exact HC1_5.out); rintro e w49 ⟨rfl, hb⟩; refine ⟨_, rfl, ?_⟩; replace BK160 := am (pkb BK160.out hb); replace BK161 := am (pkb BK161.out hb); replace HB := am (below_step pB hb); (try clear hb); (try clear hb2); (try clear hk); (try clear hi)))
     go_ret2
     exact ⟨pE, pB⟩
end Go.Proofs.YtlhnkfheojlghaaDoor.Pr
end
section
namespace Go.Proofs.YtlhnkfheojlghaaDoor.Pr
open Go.RowKit Go.Proofs.YtlhnkfheojlghaaDoorW.PrintWords Go.Proofs.YtlhnkfheojlghaaDoorW.PrintLast Go.Proofs.YtlhnkfheojlghaaDoorW.PrintMore
attribute [local go_sem] max2_int min2_int max_two min_two max_three min_three max_four min_four
def minstrelref13_Check.f (k : Nat) (a0_0 : Int) (a0_1 : Int) (l0_2 : List (S94)) (l0_3 : List (S36)) (l0_4 : List (S98)) (l0_5 : List (S27)) : Option (Int) := (minstrelref13_check.f k a0_0 a0_1 l0_2 l0_3 l0_4 l0_5 0 0 ([] : List (S94)) ([] : List (S36)) ([] : List (S98)) ([] : List (S27)) 0 0).bind fun bt167 => (some bt167.2)
set_option maxHeartbeats 8000000 in
set_option maxRecDepth 100000 in
theorem minstrelref13_Check.calls (k : Nat) (a0_0 : Int) (a0_1 : Int) (A0_2 : Option Addr) (c0_2 : Nat) (l0_2 : List (S94)) (A0_3 : Option Addr) (c0_3 : Nat) (l0_3 : List (S36)) (A0_4 : Option Addr) (c0_4 : Nat) (l0_4 : List (S98)) (A0_5 : Option Addr) (c0_5 : Nat) (l0_5 : List (S27)) (r : Int) (w : World) (hr0_2 : Kd.C k94 w A0_2 l0_2.length l0_2) (hc0_2 : l0_2.length ≤ c0_2) (hr0_3 : Kd.C k36 w A0_3 l0_3.length l0_3) (hc0_3 : l0_3.length ≤ c0_3) (hr0_4 : Kd.C k98 w A0_4 l0_4.length l0_4) (hc0_4 : l0_4.length ≤ c0_4) (hr0_5 : Kd.C k27 w A0_5 l0_5.length l0_5) (hc0_5 : l0_5.length ≤ c0_5) (h : minstrelref13_Check.f k a0_0 a0_1 l0_2 l0_3 l0_4 l0_5 = some r) :
  Calls Tryd.prog 12 #[.agg #[.int .i64 a0_0, .int .i64 a0_1, .slice A0_2 l0_2.length c0_2, .slice A0_3 l0_3.length c0_3, .slice A0_4 l0_4.length c0_4, .slice A0_5 l0_5.length c0_5]] w fun e w' => e = .returned (.int .i64 r) ∧ Below w.heap.size w w' := by
 have hu27 := Tryd.underlying27
 have HR0_2 := am hr0_2
 have HC0_2 := am hc0_2
 clear hr0_2 hc0_2
 have HR0_3 := am hr0_3
 have HC0_3 := am hc0_3
 clear hr0_3 hc0_3
 have HR0_4 := am hr0_4
 have HC0_4 := am hc0_4
 clear hr0_4 hc0_4
 have HR0_5 := am hr0_5
 have HC0_5 := am hc0_5
 clear hr0_5 hc0_5
 have HB := am (Below.refl w.heap.size w)
 have H : ((minstrelref13_check.f k a0_0 a0_1 l0_2 l0_3 l0_4 l0_5 0 0 ([] : List (S94)) ([] : List (S36)) ([] : List (S98)) ([] : List (S27)) 0 0).bind fun bt167 => (some bt167.2)) = some r := h
 clear h
 replace H := Option.bind_eq_some_iff.mp H
 obtain ⟨⟨t167, t168⟩, A20, H⟩ := H
 try dsimp only at H
 have A2 := am A20
 clear A20
 obtain rfl := Option.some.inj H
 go_enter Tryd.func12, Tryd.ntmps12
 go_wp2_with (first | ((with_reducible refine gate_dst (N := 1) rfl ?_); refine box_event ?hg (N := 1) ?hd (cs := #[.int .i64 a0_0, .int .i64 a0_1, .slice A0_2 l0_2.length c0_2, .slice A0_3 l0_3.length c0_3, .slice A0_4 l0_4.length c0_4, .slice A0_5 l0_5.length c0_5]) (t := 27) ?hr ?_; (case hd => rfl); (case hg => rfl); (case hr => first | (go_simp; done) | (go_simp; rfl)); intro gb166 hg w3 hbox hb; have BK166 := am (hbox); have GW166 := am ((by rw [hg]; exact (below_size pB) : w.heap.size ≤ gb166)); have GE166 := am ((by rw [hg]; exact (below_size pB) : w.heap.size ≤ gb166)); replace HB := am (below_step pB hb); clear hb hbox hg; have q4 := cf6 BK166.out) | ((with_reducible refine gate_callee (f := 30) rfl ?_); refine goesL_ (some 8) rfl rfl Tryd.func30 (by kernel_rfl) rfl #[.agg #[.int .i64 a0_0, .int .i64 a0_1, .slice A0_2 l0_2.length c0_2, .slice A0_3 l0_3.length c0_3, .slice A0_4 l0_4.length c0_4, .slice A0_5 l0_5.length c0_5], .agg #[.int .i64 0, .int .i64 0, .slice none 0 0, .slice none 0 0, .slice none 0 0, .slice none 0 0], .int .i64 0, .int .i64 0] rfl pM ?_; (refine (minstrelref13_check.calls k a0_0 a0_1 _ _ l0_2 _ _ l0_3 _ _ l0_4 _ _ l0_5 0 0 _ _ ([] : List (S94)) _ _ ([] : List (S36)) _ _ ([] : List (S98)) _ _ ([] : List (S27)) 0 0 t167 t168 _ ?side1 ?side2 ?side3 ?side4 ?side5 ?side6 ?side7 ?side8 ?side9 ?side10 ?side11 ?side12 ?side13 ?side14 ?side15 ?side16 A2.out).mono ?_); (case side1 => exact pC (Kd.C_below HR0_2.out HB.out)); (case side2 => exact HC0_2.out); (case side3 => exact pC (Kd.C_below HR0_3.out HB.out)); (case side4 => exact HC0_3.out); (case side5 => exact pC (Kd.C_below HR0_4.out HB.out)); (case side6 => exact HC0_4.out); (case side7 => exact pC (Kd.C_below HR0_5.out HB.out)); (case side8 => exact HC0_5.out); (case side9 => exact Kd.C_nil _ _); (case side10 => exact Nat.le_refl _); (case side11 => exact Kd.C_nil _ _); (case side12 => exact Nat.le_refl _); (case side13 => exact Kd.C_nil _ _); (case side14 => exact Nat.le_refl _); (case side15 => exact Kd.C_nil _ _); (case side16 => exact Nat.le_refl _); rintro e w5 ⟨rfl, hb⟩; refine ⟨_, rfl, ?_⟩; replace BK166 := am (pkb BK166.out hb); replace HB := am (below_step pB hb); (try clear hb); (try clear hb2); (try clear hk); (try clear hi)))
 go_ret
 exact ⟨pE, pB⟩
def minstrelref11_dec.f : Nat → Int → Option (ByteArray)
 | 0, _ => none
 | k + 1, a0 => (some (([(48 + ((Int.tmod a0 10) % 256)) % 256] : List Int) : List Int)).bind fun y169 => (if a0 ≥ 10 then ((minstrelref11_dec.f k (IntKind.u64.wrap (Int.tdiv a0 10))).bind fun t172 => (if t172.size + (strOfNums y169).size ≤ 9223372036854775807 then (some (t172 ++ (strOfNums y169))) else (none))) else (some (strOfNums y169)))
set_option maxHeartbeats 8000000 in
set_option maxRecDepth 100000 in
theorem minstrelref11_dec.calls (k : Nat) : ∀ (a0 : Int) (r : ByteArray) (w : World) (h : minstrelref11_dec.f k a0 = some r),
  Calls Tryd.prog 74 #[.int .u64 a0] w fun e w' => e = .returned (.string r) ∧ Below w.heap.size w w' := by
 induction k using Nat.strongRecOn with
 | _ k ih =>
 intro a0 r w h
 cases k with
 | zero => exact absurd h (by simp [minstrelref11_dec.f])
 | succ k =>
 simp only [minstrelref11_dec.f] at h
 have HB := am (Below.refl w.heap.size w)
 have H : ((some (([(48 + ((Int.tmod a0 10) % 256)) % 256] : List Int) : List Int)).bind fun y169 => (if a0 ≥ 10 then ((minstrelref11_dec.f k (IntKind.u64.wrap (Int.tdiv a0 10))).bind fun t172 => (if t172.size + (strOfNums y169).size ≤ 9223372036854775807 then (some (t172 ++ (strOfNums y169))) else (none))) else (some (strOfNums y169)))) = some r := h
 clear h
 obtain ⟨y169, hy169⟩ : ∃ y_ : List Int, y_ = (([(48 + ((Int.tmod a0 10) % 256)) % 256] : List Int)) := ⟨_, rfl⟩
 replace H : (if a0 ≥ 10 then ((minstrelref11_dec.f k (IntKind.u64.wrap (Int.tdiv a0 10))).bind fun t172 => (if t172.size + (strOfNums y169).size ≤ 9223372036854775807 then (some (t172 ++ (strOfNums y169))) else (none))) else (some (strOfNums y169))) = some r := by first | (rw [hy169]; with_reducible exact H) | (have H2_ := (Option.bind_some _ _).symm.trans H; rw [hy169]; with_reducible exact H2_) | (have H2_ := (Option.bind_some _ _).symm.trans H; with_reducible exact H2_) | with_reducible exact H | (rw [hy169]; exact H) | exact H
 have Ny169 := am hy169
 clear hy169
 by_cases c2 : a0 ≥ 10
 ·rw [if_pos c2] at H
  have c2b0 : decide (10 ≤ a0) = true := decide_eq_true c2
  clear c2
  replace H := Option.bind_eq_some_iff.mp H
  obtain ⟨t172, A30, H⟩ := H
  try dsimp only at H
  have A3 := am A30
  clear A30
  by_cases c4 : t172.size + (strOfNums y169).size ≤ 9223372036854775807
  ·rw [if_pos c4] at H
   have c4b0 := eq_true c4
   have c4b1 : decide (t172.size + (strOfNums y169).size ≤ 9223372036854775807) = true := decide_eq_true c4
   try have c4b2 : (9223372036854775807 < t172.size + (strOfNums y169).size) = False := eq_false (Nat.not_lt.2 c4)
   obtain rfl := Option.some.inj H
   go_enter Tryd.func74, Tryd.ntmps74
   go_wp2_with (first | ((with_reducible refine gate_dst (N := 8) rfl ?_); refine Kd.R_lit (Kd.int .u8) _ 5 ?hg (N := 8) ?hd (xs := ([(48 + ((Int.tmod a0 10) % 256)) % 256] : List Int)) (inner := [.int .u8 ((48 + ((Int.tmod a0 10) % 256)) % 256)]) (ok := fun _ => True) (okp := fun _ => True) ?hr ?hp (fun _ hk => hk) trivial (Below.refl _ _) (Nat.le_refl _) (by simp) ?_; (case hd => rfl); (case hg => rfl); (case hr => first | (go_simp; done) | (go_simp; rfl)); (case hp => exact (Reps.one (show Kd.M (Kd.int .u8) _ _ _ ((48 + ((Int.tmod a0 10) % 256)) % 256) [.int .u8 ((48 + ((Int.tmod a0 10) % 256)) % 256)] from rfl) (Reps.none _ _))); intro v170 w5 ho6 hb hg_ hnew_; clear hg_ hnew_; (first | rw [← Ny169.out] at ho6 | (simp only [Int.reduceToNat] at ho6; rw [← Ny169.out] at ho6)); have HO171 := am (Kd.R_lower ho6 (below_size pB)); replace HB := am (below_step pB hb); clear hb ho6; have hcv7 := own_string (P := Tryd.prog) Tryd.underlying56 Tryd.underlying5 Tryd.underlying9 (Kd.own_of_R HO171.out); try have hcq8 := fun n_ : Nat => own_string (P := Tryd.prog) Tryd.underlying56 Tryd.underlying5 Tryd.underlying9 (Kd.own_of_R (Kd.R_drewN HO171.out n_))) | ((with_reducible refine gate_callee (f := 74) rfl ?_); refine goesL_ (some 14) rfl rfl Tryd.func74 (by kernel_rfl) rfl #[.int .u64 (IntKind.u64.wrap (Int.tdiv a0 10))] rfl pM ?_; (with_reducible refine (ih k (by omega) (IntKind.u64.wrap (Int.tdiv a0 10)) t172 _ A3.out).mono ?_); rintro e w9 ⟨rfl, hb⟩; refine ⟨_, rfl, ?_⟩; replace HO171 := am (Kd.R_below (pR HO171.out) hb); replace HB := am (below_step pB hb); (try clear hb); (try clear hb2); (try clear hk); (try clear hi)))
   go_ret
   exact ⟨pE, pB⟩
  ·rw [if_neg c4] at H
   exact absurd H (by simp)
 ·rw [if_neg c2] at H
  have c2b0 : decide (10 ≤ a0) = false := decide_eq_false c2
  clear c2
  obtain rfl := Option.some.inj H
  go_enter Tryd.func74, Tryd.ntmps74
  go_wp2_with (first | ((with_reducible refine gate_dst (N := 8) rfl ?_); refine Kd.R_lit (Kd.int .u8) _ 5 ?hg (N := 8) ?hd (xs := ([(48 + ((Int.tmod a0 10) % 256)) % 256] : List Int)) (inner := [.int .u8 ((48 + ((Int.tmod a0 10) % 256)) % 256)]) (ok := fun _ => True) (okp := fun _ => True) ?hr ?hp (fun _ hk => hk) trivial (Below.refl _ _) (Nat.le_refl _) (by simp) ?_; (case hd => rfl); (case hg => rfl); (case hr => first | (go_simp; done) | (go_simp; rfl)); (case hp => exact (Reps.one (show Kd.M (Kd.int .u8) _ _ _ ((48 + ((Int.tmod a0 10) % 256)) % 256) [.int .u8 ((48 + ((Int.tmod a0 10) % 256)) % 256)] from rfl) (Reps.none _ _))); intro v170 w10 ho11 hb hg_ hnew_; clear hg_ hnew_; (first | rw [← Ny169.out] at ho11 | (simp only [Int.reduceToNat] at ho11; rw [← Ny169.out] at ho11)); have HO171 := am (Kd.R_lower ho11 (below_size pB)); replace HB := am (below_step pB hb); clear hb ho11; have hcv12 := own_string (P := Tryd.prog) Tryd.underlying56 Tryd.underlying5 Tryd.underlying9 (Kd.own_of_R HO171.out); try have hcq13 := fun n_ : Nat => own_string (P := Tryd.prog) Tryd.underlying56 Tryd.underlying5 Tryd.underlying9 (Kd.own_of_R (Kd.R_drewN HO171.out n_))))
  go_ret
  exact ⟨pE, pB⟩
def minstrelref11_signed.f (k : Nat) (a0 : Int) : Option (ByteArray) := if a0 < 0 then ((minstrelref11_dec.f k (IntKind.u64.wrap ((IntKind.u64.wrap (wrap64 (-(wrap64 (a0 + 1))))) + 1))).bind fun t173 => (if 1 + t173.size ≤ 9223372036854775807 then (some ((⟨#[45]⟩ : ByteArray) ++ t173)) else (none))) else ((minstrelref11_dec.f k (IntKind.u64.wrap (a0))).bind fun t174 => (some t174))
set_option maxHeartbeats 8000000 in
set_option maxRecDepth 100000 in
theorem minstrelref11_signed.calls (k : Nat) (a0 : Int) (r : ByteArray) (w : World) (h : minstrelref11_signed.f k a0 = some r) :
  Calls Tryd.prog 73 #[.int .i64 a0] w fun e w' => e = .returned (.string r) ∧ Below w.heap.size w w' := by
 have HB := am (Below.refl w.heap.size w)
 have H : (if a0 < 0 then ((minstrelref11_dec.f k (IntKind.u64.wrap ((IntKind.u64.wrap (wrap64 (-(wrap64 (a0 + 1))))) + 1))).bind fun t173 => (if 1 + t173.size ≤ 9223372036854775807 then (some ((⟨#[45]⟩ : ByteArray) ++ t173)) else (none))) else ((minstrelref11_dec.f k (IntKind.u64.wrap (a0))).bind fun t174 => (some t174))) = some r := h
 clear h
 by_cases c2 : a0 < 0
 ·rw [if_pos c2] at H
  have c2b0 : decide (a0 < 0) = true := decide_eq_true c2
  clear c2
  replace H := Option.bind_eq_some_iff.mp H
  obtain ⟨t173, A30, H⟩ := H
  try dsimp only at H
  have A3 := am A30
  clear A30
  by_cases c4 : 1 + t173.size ≤ 9223372036854775807
  ·rw [if_pos c4] at H
   have c4b0 := eq_true c4
   have c4b1 : decide (1 + t173.size ≤ 9223372036854775807) = true := decide_eq_true c4
   try have c4b2 : (9223372036854775807 < 1 + t173.size) = False := eq_false (Nat.not_lt.2 c4)
   obtain rfl := Option.some.inj H
   go_enter Tryd.func73, Tryd.ntmps73
   go_wp2_with (first | ((with_reducible refine gate_callee (f := 74) rfl ?_); refine goesL_ (some 10) rfl rfl Tryd.func74 (by kernel_rfl) rfl #[.int .u64 (IntKind.u64.wrap ((IntKind.u64.wrap (wrap64 (-(wrap64 (a0 + 1))))) + 1))] rfl pM ?_; (with_reducible refine (minstrelref11_dec.calls k (IntKind.u64.wrap ((IntKind.u64.wrap (wrap64 (-(wrap64 (a0 + 1))))) + 1)) t173 _ A3.out).mono ?_); rintro e w5 ⟨rfl, hb⟩; refine ⟨_, rfl, ?_⟩; replace HB := am (below_step pB hb); (try clear hb); (try clear hb2); (try clear hk); (try clear hi)))
   go_ret
   exact ⟨pE, pB⟩
  ·rw [if_neg c4] at H
   exact absurd H (by simp)
 ·rw [if_neg c2] at H
  have c2b0 : decide (a0 < 0) = false := decide_eq_false c2
  clear c2
  replace H := Option.bind_eq_some_iff.mp H
  obtain ⟨t174, A60, H⟩ := H
  try dsimp only at H
  have A6 := am A60
  clear A60
  obtain rfl := Option.some.inj H
  go_enter Tryd.func73, Tryd.ntmps73
  go_wp2_with (first | ((with_reducible refine gate_callee (f := 74) rfl ?_); refine goesL_ (some 14) rfl rfl Tryd.func74 (by kernel_rfl) rfl #[.int .u64 (IntKind.u64.wrap (a0))] rfl pM ?_; (with_reducible refine (minstrelref11_dec.calls k (IntKind.u64.wrap (a0)) t174 _ A6.out).mono ?_); rintro e w7 ⟨rfl, hb⟩; refine ⟨_, rfl, ?_⟩; replace HB := am (below_step pB hb); (try clear hb); (try clear hb2); (try clear hk); (try clear hi)))
  go_ret
  exact ⟨pE, pB⟩
end Go.Proofs.YtlhnkfheojlghaaDoor.Pr
end
