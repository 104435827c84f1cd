/- A part of the proof of the law that RowSnapEntries shows: lemmas, and contracts of the calls that it reaches. -/
import Derived.Test.YtlkaffbgekbcfaaDoorProg
import Derived.Below
import Derived.Deep.Draws
import Derived.Deep.AppendLies
import Derived.Maps.AppendAt
import Derived.OwnWalk
import Derived.Laws.BytesArg
import Derived.Laws.MakeOwn
import Derived.Laws.OwnMore
import Derived.Deep.OwnRows
import Derived.Tactics
import Derived.Lib.ConvBytes
import Derived.Laws.Slices
import Derived.WalkKit
import Derived.KernelRfl
import Derived.RowKit3
import Derived.Deep.LoopGhost
import Derived.Deep.QuietTactic
import Derived.BigQuiet
import Derived.WideLaws
import Derived.Deep.DeepCutAuto
import Derived.Deep.CutBlock
import Derived.Deep.RegionHeld3
import Derived.Laws.Rows
import Derived.Lib.AppendStr
import Derived.ArgAppend
import Derived.Laws.IdiomCopy
import Derived.OrdersHeld
import Derived.Laws.BitsLemmas
import Derived.RowKit
import Derived.Test.YtlkaffbgekbcfaaDoorZD0
import Derived.Test.YtlkaffbgekbcfaaDoorZD1
import Derived.Test.YtlkaffbgekbcfaaDoorZD2
import Derived.Test.YtlkaffbgekbcfaaDoorZD3
set_option linter.unusedVariables false
set_option linter.unusedSimpArgs false
section
namespace Go.Proofs.YtlkaffbgekbcfaaDoor.Pr
open Go.RowKit Go.Proofs.YtlkaffbgekbcfaaDoorW.PrintWords Go.Proofs.YtlkaffbgekbcfaaDoorW.PrintLast Go.Proofs.YtlkaffbgekbcfaaDoorW.PrintMore
attribute [local go_sem] max2_int min2_int max_two min_two max_three min_three max_four min_four
def snap_FromEntry.j0 : Nat → Bool → Int → Int → ByteArray → List (S26) → Option (Int × Int × ByteArray × List Int × Int)
 | 0, _, _, _, _, _ => none
 | k + 1, x38, x775000, x775001, x775002, x775003 => if x38 = true then (some (0, 0, (⟨#[]⟩ : ByteArray), ([] : List Int), 4)) else (if 0 < (x775003.length : Int) then (if 1 < (x775003.length : Int) then (if (wrap64 ((rd_T26 x775003 1).f1)) = 0 then (if ((x775003.length : Int) = 2) then (some ((rd_T26 x775003 0).f1, wrap64 ((rd_T26 x775003 1).f1), (⟨#[]⟩ : ByteArray), ([] : List Int), 0)) else (some (0, 0, (⟨#[]⟩ : ByteArray), ([] : List Int), 4))) else (if (x775003.length : Int) = 3 then (if (wrap64 ((rd_T26 x775003 1).f1)) = 1 then (if 2 < (x775003.length : Int) then (if ((rd_T26 x775003 2).f0) = 1 then (if ((((rd_T26 x775003 2).f2).size : Int) ≤ 65536) then (some ((rd_T26 x775003 0).f1, wrap64 ((rd_T26 x775003 1).f1), (rd_T26 x775003 2).f2, ([] : List Int), 0)) else (some (0, 0, (⟨#[]⟩ : ByteArray), ([] : List Int), 4))) else (some (0, 0, (⟨#[]⟩ : ByteArray), ([] : List Int), 4))) else (none)) else (if 2 < (x775003.length : Int) then ((snap_read.f k ((rd_T26 x775003 2).f0) ((rd_T26 x775003 2).f1) ((rd_T26 x775003 2).f2) ((rd_T26 x775003 2).f3)).bind fun bt786 => (if bt786.2 = true then (some ((rd_T26 x775003 0).f1, wrap64 ((rd_T26 x775003 1).f1), (⟨#[]⟩ : ByteArray), bt786.1, 0)) else (some (0, 0, (⟨#[]⟩ : ByteArray), ([] : List Int), 4)))) else (none))) else (some (0, 0, (⟨#[]⟩ : ByteArray), ([] : List Int), 4)))) else (none)) else (none))
def snap_FromEntry.f (k : Nat) (a0_0 : Int) (a0_1 : Int) (a0_2 : ByteArray) (l0_3 : List (S26)) : Option (Int × Int × ByteArray × List Int × Int) := if a0_0 = 2 then (if (l0_3.length : Int) < 2 then (snap_FromEntry.j0 k true a0_0 a0_1 a0_2 l0_3) else (if 0 < (l0_3.length : Int) then (if ((rd_T26 l0_3 0).f0) = 0 then (if 1 < (l0_3.length : Int) then (if ((rd_T26 l0_3 1).f0) = 0 then (snap_FromEntry.j0 k (decide (((rd_T26 l0_3 1).f1) > 2)) a0_0 a0_1 a0_2 l0_3) else (snap_FromEntry.j0 k true a0_0 a0_1 a0_2 l0_3)) else (none)) else (snap_FromEntry.j0 k true a0_0 a0_1 a0_2 l0_3)) else (none))) else (snap_FromEntry.j0 k true a0_0 a0_1 a0_2 l0_3)
def snap_FromEntry.T3 : Bool × List (List Nat × List Nat) := (true, [([], []), ([0], [0]), ([1], [1]), ([2], [2]), ([3], [3]), ([], []), ([5], [5]), ([6], [6]), ([7], [7]), ([8], [8]), ([9], [9]), ([4, 10], [4, 10]), ([], []), ([12, 11, 0, 1, 2, 3, 4, 5, 6, 7, 8, 9, 10, 11, 12], [11, 12])])
def snap_FromEntry.B3 : List Nat := [0, 1, 3, 7, 15, 0, 32, 96, 224, 480, 992, 2047, 0, 8191]
theorem snap_FromEntry.tab3 : rtab .any (opsOf Tryd.f20 3) = snap_FromEntry.T3 := by kernel_rfl
theorem snap_FromEntry.bits3 : waitsOk snap_FromEntry.T3.2 snap_FromEntry.B3 = true := by kernel_rfl
def snap_FromEntry.T10 : Bool × List (List Nat × List Nat) := (true, [([], []), ([0], [0]), ([1], [1]), ([2], [2]), ([3], [3]), ([], []), ([5], [5]), ([6], [6]), ([7], [7]), ([8], [8]), ([9], [9]), ([10], [10]), ([11], [11]), ([12, 11], [11, 12]), ([13, 11], [11, 13]), ([14, 11], [11, 14]), ([15, 11], [11, 15]), ([16, 11], [11, 16]), ([17, 11], [11, 17]), ([11, 18], [11, 18]), ([0, 1, 2, 3, 4], []), ([20, 4, 11, 0, 1, 2, 3, 4], [4, 20]), ([19, 21, 0, 1, 2, 3, 4, 5, 6, 7, 8, 9, 10, 11, 12, 13, 14, 15, 16, 17, 18, 19, 20, 21], [19])])
def snap_FromEntry.B10 : List Nat := [0, 1, 3, 7, 15, 0, 32, 96, 224, 480, 992, 2016, 4064, 8160, 16352, 32736, 65504, 131040, 262112, 524256, 31, 1052671, 4194303]
theorem snap_FromEntry.tab10 : rtab .any (opsOf Tryd.f20 10) = snap_FromEntry.T10 := by kernel_rfl
theorem snap_FromEntry.bits10 : waitsOk snap_FromEntry.T10.2 snap_FromEntry.B10 = true := by kernel_rfl
set_option maxHeartbeats 8000000 in
set_option maxRecDepth 100000 in
theorem snap_FromEntry.calls (k : Nat) (a0_0 : Int) (a0_1 : Int) (a0_2 : ByteArray) (A0_3 : Option Addr) (c0_3 : Nat) (l0_3 : List (S26)) (r1 : Int) (r2 : Int) (r3 : ByteArray) (r4 : List Int) (r5 : Int) (w : World) (hr0_3 : Kd.C k26 w A0_3 l0_3.length l0_3) (hc0_3 : l0_3.length ≤ c0_3) (h : snap_FromEntry.f k a0_0 a0_1 a0_2 l0_3 = some (r1, r2, r3, r4, r5)) :
  Calls Tryd.prog 20 #[.agg #[.int .i64 a0_0, .int .u64 a0_1, .string a0_2, .slice A0_3 l0_3.length c0_3]] w fun e w' => ∃ v3_ : Value, e = .returned (.tuple #[.agg #[.int .u64 r1, .int .i64 r2, .string r3, v3_], .int .i64 r5]) ∧ Kd.R (Kd.int .i64) 3 w' w.heap.size (fun _ => True) v3_ r4 ∧ Below w.heap.size w w' := by
 have hu26 := Tryd.underlying26
 have hu46 := Tryd.underlying46
 have HR0_3 := am hr0_3
 have HC0_3 := am hc0_3
 clear hr0_3 hc0_3
 have HB := am (Below.refl w.heap.size w)
 have H : (if a0_0 = 2 then (if (l0_3.length : Int) < 2 then (snap_FromEntry.j0 k true a0_0 a0_1 a0_2 l0_3) else (if 0 < (l0_3.length : Int) then (if ((rd_T26 l0_3 0).f0) = 0 then (if 1 < (l0_3.length : Int) then (if ((rd_T26 l0_3 1).f0) = 0 then (snap_FromEntry.j0 k (decide (((rd_T26 l0_3 1).f1) > 2)) a0_0 a0_1 a0_2 l0_3) else (snap_FromEntry.j0 k true a0_0 a0_1 a0_2 l0_3)) else (none)) else (snap_FromEntry.j0 k true a0_0 a0_1 a0_2 l0_3)) else (none))) else (snap_FromEntry.j0 k true a0_0 a0_1 a0_2 l0_3)) = some (r1, r2, r3, r4, r5) := h
 clear h
 have HC2 := am H
 clear H
 go_enter Tryd.func20, Tryd.ntmps20
 go_upto_region 1 with (first | ((with_reducible refine gate_dst (N := 1) rfl ?_); (try (refine gate_guard (by rfl) ?_; dsimp only)); refine box_event ?hg (N := 1) ?hd (cs := #[.int .i64 a0_0, .int .u64 a0_1, .string a0_2, .slice A0_3 l0_3.length c0_3]) (t := 26) ?hr ?_; (case hd => rfl); (case hg => rfl); (case hr => first | (go_simp; done) | (go_simp; rfl)); intro gb774 hg w3 hbox hb; have BK774 := am (hbox); have GW774 := am ((by rw [hg]; exact (below_size pB) : w.heap.size ≤ gb774)); have GE774 := am ((by rw [hg]; exact (below_size pB) : w.heap.size ≤ gb774)); replace HB := am (below_step pB hb); clear hb hbox hg) | ((with_reducible refine gate_dst (N := 2) rfl ?_); (try (refine gate_guard (by rfl) ?_; dsimp only)); refine box_event ?hg (N := 2) ?hd (cs := #[.int .u64 0, .int .i64 0, .string (⟨#[]⟩ : ByteArray), .slice none 0 0]) (t := 46) ?hr ?_; (case hd => rfl); (case hg => rfl); (case hr => first | (go_simp; done) | (go_simp; rfl)); intro gb775 hg w4 hbox hb; have BK775 := am (hbox); have GW775 := am ((by rw [hg]; exact (below_size pB) : w.heap.size ≤ gb775)); have GE775 := am ((by rw [hg]; exact (below_size pB) : w.heap.size ≤ gb775)); have NB774_775 := am ((by rw [hg]; exact Nat.ne_of_lt (pkl BK774.out) : gb774 ≠ gb775)); have NB775_774 := am ((by rw [hg]; exact Nat.ne_of_gt (pkl BK774.out) : gb775 ≠ gb774)); replace BK774 := am (pkb BK774.out hb); replace HB := am (below_step pB hb); clear hb hbox hg))
 (try simp only [Act.put, List.setIfInBounds_toArray, List.set_cons_zero, List.set_cons_succ])
 go_cut [38] (fun v38 wc => ∃ (kq : Nat) (x38_1 : Bool), v38 = .bool x38_1 ∧ Aside0 (snap_FromEntry.j0 kq x38_1 a0_0 a0_1 a0_2 l0_3 = some (r1, r2, r3, r4, r5)) ∧ Aside0 (kq ≤ k) ∧ Aside0 (wc.heap[gb774]? = some (.cells #[.int .i64 a0_0, .int .u64 a0_1, .string a0_2, (.slice A0_3 l0_3.length c0_3)] 26 (0, 0))) ∧ Aside0 (wc.heap[gb775]? = some (.cells #[.int .u64 0, .int .i64 0, .string (⟨#[]⟩ : ByteArray), (.slice none 0 0)] 46 (0, 0))) ∧ Aside0 (Below w.heap.size w wc))
 case first =>
  have H := HC2.out
  clear HC2
  by_cases c5 : a0_0 = 2
  ·rw [if_pos c5] at H
   have c5b0 : (a0_0 == 2) = true := beq_iff_eq.mpr c5
   have c5b1 : (a0_0 != 2) = false := bne_eq_false_iff_eq.mpr c5
   clear c5
   (first | rw [c5b0] | (simp only [i64_w, i32_w]; rw [c5b0]) | rw [c5b1] | (simp only [i64_w, i32_w]; rw [c5b1]) | skip)
   by_cases c6 : (l0_3.length : Int) < 2
   ·rw [if_pos c6] at H
    have c6b0 : decide ((l0_3.length : Int) < 2) = true := decide_eq_true c6
    have c6b1 : decide (l0_3.length < 2) = true := decide_eq_true (by omega)
    clear c6
    have H' := am H
    clear H
    have hnb7 := NB774_775.out
    have hnc7 := NB775_774.out
    have q8 := cf4 BK774.out
    go_wp2
    go_meet
    case rel => exact ⟨_, (true), (by first | rfl | (simp; done) | (simp [*]; done)), H', ⟨by first | omega | exact Nat.le_refl _⟩, ⟨by (with_reducible repeat (first | refine blk_drewN ?_ _ | refine blk_drew ?_ | refine blk_alloc ?_ _)); exact BK774.out⟩, ⟨by (with_reducible repeat (first | refine blk_drewN ?_ _ | refine blk_drew ?_ | refine blk_alloc ?_ _)); exact BK775.out⟩, ⟨pB⟩⟩
   ·rw [if_neg c6] at H
    have c6b0 : decide ((l0_3.length : Int) < 2) = false := decide_eq_false c6
    have c6b1 : decide (l0_3.length < 2) = false := decide_eq_false (by omega)
    clear c6
    by_cases c9 : 0 < (l0_3.length : Int)
    ·rw [if_pos c9] at H
     have c9b0 : decide (0 < (l0_3.length : Int)) = true := decide_eq_true c9
     have c9b1 : decide (0 < l0_3.length) = true := decide_eq_true (by omega)
     clear c9
     by_cases c10 : ((rd_T26 l0_3 0).f0) = 0
     ·rw [if_pos c10] at H
      have c10b0 : (((rd_T26 l0_3 0).f0) == 0) = true := beq_iff_eq.mpr c10
      have c10b1 : (((rd_T26 l0_3 0).f0) != 0) = false := bne_eq_false_iff_eq.mpr c10
      clear c10
      by_cases c11 : 1 < (l0_3.length : Int)
      ·rw [if_pos c11] at H
       have c11b0 : decide (1 < (l0_3.length : Int)) = true := decide_eq_true c11
       have c11b1 : decide (1 < l0_3.length) = true := decide_eq_true (by omega)
       clear c11
       by_cases c12 : ((rd_T26 l0_3 1).f0) = 0
       ·rw [if_pos c12] at H
        have c12b0 : (((rd_T26 l0_3 1).f0) == 0) = true := beq_iff_eq.mpr c12
        have c12b1 : (((rd_T26 l0_3 1).f0) != 0) = false := bne_eq_false_iff_eq.mpr c12
        clear c12
        have H' := am H
        clear H
        have hnb13 := NB774_775.out
        have hnc13 := NB775_774.out
        have q14 := cf4 BK774.out
        have p776 : 0 ≤ (0 : Int) := (by omega)
        have q776 : 0 < (l0_3.length : Int) := pD
        obtain ⟨ad776, A776_3, c776_3, e776, hx776_0, hx776_1, hx776_2, hx776_3, hl776_3, hi776_3⟩ := at_T26 HR0_3.out 0 p776 q776
        cases e776
        have qi776 : (0 < l0_3.length) = True := eq_true (by omega)
        (try rw [show ((0 : Int)).toNat = 0 from rfl] at hx776_0)
        (try rw [show 0 * 4 = 0 from rfl] at hx776_0)
        (try rw [Addr.add_zero'] at hx776_0)
        (try rw [show ((0 : Int)).toNat = 0 from rfl] at hx776_1)
        (try rw [show 0 * 4 = 0 from rfl] at hx776_1)
        (try rw [Addr.add_zero'] at hx776_1)
        (try rw [show ((0 : Int)).toNat = 0 from rfl] at hx776_2)
        (try rw [show 0 * 4 = 0 from rfl] at hx776_2)
        (try rw [Addr.add_zero'] at hx776_2)
        (try rw [show ((0 : Int)).toNat = 0 from rfl] at hx776_3)
        (try rw [show 0 * 4 = 0 from rfl] at hx776_3)
        (try rw [Addr.add_zero'] at hx776_3)
        replace hx776_0 := (HB.out.cell (World.block_lt_of_cell? w _ hx776_0)).trans hx776_0
        replace hx776_1 := (HB.out.cell (World.block_lt_of_cell? w _ hx776_1)).trans hx776_1
        replace hx776_2 := (HB.out.cell (World.block_lt_of_cell? w _ hx776_2)).trans hx776_2
        replace hx776_3 := (HB.out.cell (World.block_lt_of_cell? w _ hx776_3)).trans hx776_3
        have HR776_3 := am hi776_3
        have HC776_3 := am hl776_3
        clear hi776_3 hl776_3
        replace p776 := eq_true p776
        replace q776 := eq_true q776
        have p777 : 0 ≤ (1 : Int) := (by omega)
        have q777 : 1 < (l0_3.length : Int) := pD
        obtain ⟨ad777, A777_3, c777_3, e777, hx777_0, hx777_1, hx777_2, hx777_3, hl777_3, hi777_3⟩ := at_T26 HR0_3.out 1 p777 q777
        obtain rfl : ad776 = ad777 := (by injection e777)
        (try simp only [show (1 : Int).toNat = 1 from rfl, Nat.reduceMul, Nat.reduceEqDiff, Go.Addr.add, ↓reduceIte] at hx777_0)
        (try simp only [show (1 : Int).toNat = 1 from rfl, Nat.reduceMul, Nat.reduceEqDiff, Go.Addr.add, ↓reduceIte] at hx777_1)
        (try simp only [show (1 : Int).toNat = 1 from rfl, Nat.reduceMul, Nat.reduceEqDiff, Go.Addr.add, ↓reduceIte] at hx777_2)
        (try simp only [show (1 : Int).toNat = 1 from rfl, Nat.reduceMul, Nat.reduceEqDiff, Go.Addr.add, ↓reduceIte] at hx777_3)
        have qi777 : (1 < l0_3.length) = True := eq_true (by omega)
        (try rw [show ((1 : Int)).toNat = 1 from rfl] at hx777_0)
        (try rw [show 1 * 4 = 4 from rfl] at hx777_0)
        (try rw [show ((1 : Int)).toNat = 1 from rfl] at hx777_1)
        (try rw [show 1 * 4 = 4 from rfl] at hx777_1)
        (try rw [show ((1 : Int)).toNat = 1 from rfl] at hx777_2)
        (try rw [show 1 * 4 = 4 from rfl] at hx777_2)
        (try rw [show ((1 : Int)).toNat = 1 from rfl] at hx777_3)
        (try rw [show 1 * 4 = 4 from rfl] at hx777_3)
        replace hx777_0 := (HB.out.cell (World.block_lt_of_cell? w _ hx777_0)).trans hx777_0
        replace hx777_1 := (HB.out.cell (World.block_lt_of_cell? w _ hx777_1)).trans hx777_1
        replace hx777_2 := (HB.out.cell (World.block_lt_of_cell? w _ hx777_2)).trans hx777_2
        replace hx777_3 := (HB.out.cell (World.block_lt_of_cell? w _ hx777_3)).trans hx777_3
        have HR777_3 := am hi777_3
        have HC777_3 := am hl777_3
        clear hi777_3 hl777_3
        replace p777 := eq_true p777
        replace q777 := eq_true q777
        have p778 : 0 ≤ (1 : Int) := (by omega)
        have q778 : 1 < (l0_3.length : Int) := pD
        obtain ⟨ad778, A778_3, c778_3, e778, hx778_0, hx778_1, hx778_2, hx778_3, hl778_3, hi778_3⟩ := at_T26 HR0_3.out 1 p778 q778
        obtain rfl : ad776 = ad778 := (by injection e778)
        (try simp only [show (1 : Int).toNat = 1 from rfl, Nat.reduceMul, Nat.reduceEqDiff, Go.Addr.add, ↓reduceIte] at hx778_0)
        (try simp only [show (1 : Int).toNat = 1 from rfl, Nat.reduceMul, Nat.reduceEqDiff, Go.Addr.add, ↓reduceIte] at hx778_1)
        (try simp only [show (1 : Int).toNat = 1 from rfl, Nat.reduceMul, Nat.reduceEqDiff, Go.Addr.add, ↓reduceIte] at hx778_2)
        (try simp only [show (1 : Int).toNat = 1 from rfl, Nat.reduceMul, Nat.reduceEqDiff, Go.Addr.add, ↓reduceIte] at hx778_3)
        have qi778 : (1 < l0_3.length) = True := eq_true (by omega)
        (try rw [show ((1 : Int)).toNat = 1 from rfl] at hx778_0)
        (try rw [show 1 * 4 = 4 from rfl] at hx778_0)
        (try rw [show ((1 : Int)).toNat = 1 from rfl] at hx778_1)
        (try rw [show 1 * 4 = 4 from rfl] at hx778_1)
        (try rw [show ((1 : Int)).toNat = 1 from rfl] at hx778_2)
        (try rw [show 1 * 4 = 4 from rfl] at hx778_2)
        (try rw [show ((1 : Int)).toNat = 1 from rfl] at hx778_3)
        (try rw [show 1 * 4 = 4 from rfl] at hx778_3)
        replace hx778_0 := (HB.out.cell (World.block_lt_of_cell? w _ hx778_0)).trans hx778_0
        replace hx778_1 := (HB.out.cell (World.block_lt_of_cell? w _ hx778_1)).trans hx778_1
        replace hx778_2 := (HB.out.cell (World.block_lt_of_cell? w _ hx778_2)).trans hx778_2
        replace hx778_3 := (HB.out.cell (World.block_lt_of_cell? w _ hx778_3)).trans hx778_3
        have HR778_3 := am hi778_3
        have HC778_3 := am hl778_3
        clear hi778_3 hl778_3
        replace p778 := eq_true p778
        replace q778 := eq_true q778
        have ea_ := Option.some.inj (hx777_3.symm.trans hx778_3)
        injection ea_ with ea_ en_ ec_
        subst ea_
        subst ec_
        clear en_
        go_wp2
        go_meet
        case rel => exact ⟨_, (decide (((rd_T26 l0_3 1).f1) > 2)), (by first | rfl | (simp; done) | (simp [*]; done)), H', ⟨by first | omega | exact Nat.le_refl _⟩, ⟨by (with_reducible repeat (first | refine blk_drewN ?_ _ | refine blk_drew ?_ | refine blk_alloc ?_ _)); exact BK774.out⟩, ⟨by (with_reducible repeat (first | refine blk_drewN ?_ _ | refine blk_drew ?_ | refine blk_alloc ?_ _)); exact BK775.out⟩, ⟨pB⟩⟩
       ·rw [if_neg c12] at H
        have c12b0 : (((rd_T26 l0_3 1).f0) == 0) = false := beq_eq_false_iff_ne.mpr c12
        have c12b1 : (((rd_T26 l0_3 1).f0) != 0) = true := bne_iff_ne.mpr c12
        have H' := am H
        clear H
        have hnb15 := NB774_775.out
        have hnc15 := NB775_774.out
        have q16 := cf4 BK774.out
        have p776 : 0 ≤ (0 : Int) := (by omega)
        have q776 : 0 < (l0_3.length : Int) := pD
        obtain ⟨ad776, A776_3, c776_3, e776, hx776_0, hx776_1, hx776_2, hx776_3, hl776_3, hi776_3⟩ := at_T26 HR0_3.out 0 p776 q776
        cases e776
        have qi776 : (0 < l0_3.length) = True := eq_true (by omega)
        (try rw [show ((0 : Int)).toNat = 0 from rfl] at hx776_0)
        (try rw [show 0 * 4 = 0 from rfl] at hx776_0)
        (try rw [Addr.add_zero'] at hx776_0)
        (try rw [show ((0 : Int)).toNat = 0 from rfl] at hx776_1)
        (try rw [show 0 * 4 = 0 from rfl] at hx776_1)
        (try rw [Addr.add_zero'] at hx776_1)
        (try rw [show ((0 : Int)).toNat = 0 from rfl] at hx776_2)
        (try rw [show 0 * 4 = 0 from rfl] at hx776_2)
        (try rw [Addr.add_zero'] at hx776_2)
        (try rw [show ((0 : Int)).toNat = 0 from rfl] at hx776_3)
        (try rw [show 0 * 4 = 0 from rfl] at hx776_3)
        (try rw [Addr.add_zero'] at hx776_3)
        replace hx776_0 := (HB.out.cell (World.block_lt_of_cell? w _ hx776_0)).trans hx776_0
        replace hx776_1 := (HB.out.cell (World.block_lt_of_cell? w _ hx776_1)).trans hx776_1
        replace hx776_2 := (HB.out.cell (World.block_lt_of_cell? w _ hx776_2)).trans hx776_2
        replace hx776_3 := (HB.out.cell (World.block_lt_of_cell? w _ hx776_3)).trans hx776_3
        have HR776_3 := am hi776_3
        have HC776_3 := am hl776_3
        clear hi776_3 hl776_3
        replace p776 := eq_true p776
        replace q776 := eq_true q776
        have p777 : 0 ≤ (1 : Int) := (by omega)
        have q777 : 1 < (l0_3.length : Int) := pD
        obtain ⟨ad777, A777_3, c777_3, e777, hx777_0, hx777_1, hx777_2, hx777_3, hl777_3, hi777_3⟩ := at_T26 HR0_3.out 1 p777 q777
        obtain rfl : ad776 = ad777 := (by injection e777)
        (try simp only [show (1 : Int).toNat = 1 from rfl, Nat.reduceMul, Nat.reduceEqDiff, Go.Addr.add, ↓reduceIte] at hx777_0)
        (try simp only [show (1 : Int).toNat = 1 from rfl, Nat.reduceMul, Nat.reduceEqDiff, Go.Addr.add, ↓reduceIte] at hx777_1)
        (try simp only [show (1 : Int).toNat = 1 from rfl, Nat.reduceMul, Nat.reduceEqDiff, Go.Addr.add, ↓reduceIte] at hx777_2)
        (try simp only [show (1 : Int).toNat = 1 from rfl, Nat.reduceMul, Nat.reduceEqDiff, Go.Addr.add, ↓reduceIte] at hx777_3)
        have qi777 : (1 < l0_3.length) = True := eq_true (by omega)
        (try rw [show ((1 : Int)).toNat = 1 from rfl] at hx777_0)
        (try rw [show 1 * 4 = 4 from rfl] at hx777_0)
        (try rw [show ((1 : Int)).toNat = 1 from rfl] at hx777_1)
        (try rw [show 1 * 4 = 4 from rfl] at hx777_1)
        (try rw [show ((1 : Int)).toNat = 1 from rfl] at hx777_2)
        (try rw [show 1 * 4 = 4 from rfl] at hx777_2)
        (try rw [show ((1 : Int)).toNat = 1 from rfl] at hx777_3)
        (try rw [show 1 * 4 = 4 from rfl] at hx777_3)
        replace hx777_0 := (HB.out.cell (World.block_lt_of_cell? w _ hx777_0)).trans hx777_0
        replace hx777_1 := (HB.out.cell (World.block_lt_of_cell? w _ hx777_1)).trans hx777_1
        replace hx777_2 := (HB.out.cell (World.block_lt_of_cell? w _ hx777_2)).trans hx777_2
        replace hx777_3 := (HB.out.cell (World.block_lt_of_cell? w _ hx777_3)).trans hx777_3
        have HR777_3 := am hi777_3
        have HC777_3 := am hl777_3
        clear hi777_3 hl777_3
        replace p777 := eq_true p777
        replace q777 := eq_true q777
        go_wp2
        go_meet
        case rel => exact ⟨_, (true), (by first | rfl | (simp; done) | (simp [*]; done)), H', ⟨by first | omega | exact Nat.le_refl _⟩, ⟨by (with_reducible repeat (first | refine blk_drewN ?_ _ | refine blk_drew ?_ | refine blk_alloc ?_ _)); exact BK774.out⟩, ⟨by (with_reducible repeat (first | refine blk_drewN ?_ _ | refine blk_drew ?_ | refine blk_alloc ?_ _)); exact BK775.out⟩, ⟨pB⟩⟩
      ·rw [if_neg c11] at H
       exact absurd H (by simp)
     ·rw [if_neg c10] at H
      have c10b0 : (((rd_T26 l0_3 0).f0) == 0) = false := beq_eq_false_iff_ne.mpr c10
      have c10b1 : (((rd_T26 l0_3 0).f0) != 0) = true := bne_iff_ne.mpr c10
      have H' := am H
      clear H
      have hnb17 := NB774_775.out
      have hnc17 := NB775_774.out
      have q18 := cf4 BK774.out
      have p776 : 0 ≤ (0 : Int) := (by omega)
      have q776 : 0 < (l0_3.length : Int) := pD
      obtain ⟨ad776, A776_3, c776_3, e776, hx776_0, hx776_1, hx776_2, hx776_3, hl776_3, hi776_3⟩ := at_T26 HR0_3.out 0 p776 q776
      cases e776
      have qi776 : (0 < l0_3.length) = True := eq_true (by omega)
      (try rw [show ((0 : Int)).toNat = 0 from rfl] at hx776_0)
      (try rw [show 0 * 4 = 0 from rfl] at hx776_0)
      (try rw [Addr.add_zero'] at hx776_0)
      (try rw [show ((0 : Int)).toNat = 0 from rfl] at hx776_1)
      (try rw [show 0 * 4 = 0 from rfl] at hx776_1)
      (try rw [Addr.add_zero'] at hx776_1)
      (try rw [show ((0 : Int)).toNat = 0 from rfl] at hx776_2)
      (try rw [show 0 * 4 = 0 from rfl] at hx776_2)
      (try rw [Addr.add_zero'] at hx776_2)
      (try rw [show ((0 : Int)).toNat = 0 from rfl] at hx776_3)
      (try rw [show 0 * 4 = 0 from rfl] at hx776_3)
      (try rw [Addr.add_zero'] at hx776_3)
      replace hx776_0 := (HB.out.cell (World.block_lt_of_cell? w _ hx776_0)).trans hx776_0
      replace hx776_1 := (HB.out.cell (World.block_lt_of_cell? w _ hx776_1)).trans hx776_1
      replace hx776_2 := (HB.out.cell (World.block_lt_of_cell? w _ hx776_2)).trans hx776_2
      replace hx776_3 := (HB.out.cell (World.block_lt_of_cell? w _ hx776_3)).trans hx776_3
      have HR776_3 := am hi776_3
      have HC776_3 := am hl776_3
      clear hi776_3 hl776_3
      replace p776 := eq_true p776
      replace q776 := eq_true q776
      go_wp2
      go_meet
      case rel => exact ⟨_, (true), (by first | rfl | (simp; done) | (simp [*]; done)), H', ⟨by first | omega | exact Nat.le_refl _⟩, ⟨by (with_reducible repeat (first | refine blk_drewN ?_ _ | refine blk_drew ?_ | refine blk_alloc ?_ _)); exact BK774.out⟩, ⟨by (with_reducible repeat (first | refine blk_drewN ?_ _ | refine blk_drew ?_ | refine blk_alloc ?_ _)); exact BK775.out⟩, ⟨pB⟩⟩
    ·rw [if_neg c9] at H
     exact absurd H (by simp)
  ·rw [if_neg c5] at H
   have c5b0 : (a0_0 == 2) = false := beq_eq_false_iff_ne.mpr c5
   have c5b1 : (a0_0 != 2) = true := bne_iff_ne.mpr c5
   (first | rw [c5b0] | (simp only [i64_w, i32_w]; rw [c5b0]) | rw [c5b1] | (simp only [i64_w, i32_w]; rw [c5b1]) | skip)
   have H' := am H
   clear H
   have hnb19 := NB774_775.out
   have hnc19 := NB775_774.out
   have q20 := cf4 BK774.out
   go_wp2
   go_meet
   case rel => exact ⟨_, (true), (by first | rfl | (simp; done) | (simp [*]; done)), H', ⟨by first | omega | exact Nat.le_refl _⟩, ⟨by (with_reducible repeat (first | refine blk_drewN ?_ _ | refine blk_drew ?_ | refine blk_alloc ?_ _)); exact BK774.out⟩, ⟨by (with_reducible repeat (first | refine blk_drewN ?_ _ | refine blk_drew ?_ | refine blk_alloc ?_ _)); exact BK775.out⟩, ⟨pB⟩⟩
 case rest =>
  clear HC2
  try clear c1
  try clear c2
  try clear p2
  try clear c5
  try clear c5b0
  try clear c5b1
  try clear c6
  try clear c6b0
  try clear c6b1
  try clear c7
  try clear p7
  try clear q7
  try clear hx7
  try clear qi7
  try clear c9
  try clear c9b0
  try clear c9b1
  try clear c10
  try clear c10b0
  try clear c10b1
  try clear c11
  try clear c11b0
  try clear c11b1
  try clear c12
  try clear c12b0
  try clear c12b1
  try clear c13
  try clear c15
  try clear c17
  try clear c19
  try clear c20
  try clear q14 q16 q18 q20 q8
  try clear hx776_0
  try clear hx776_1
  try clear hx776_2
  try clear hx776_3
  try clear hx777_0
  try clear hx777_1
  try clear hx777_2
  try clear hx777_3
  try clear hx778_0
  try clear hx778_1
  try clear hx778_2
  try clear hx778_3
  try clear p776
  try clear p777
  try clear p778
  try clear q776
  try clear q777
  try clear q778
  obtain ⟨kq, x38_1, rfl, HA, HJ1, BK774, BK775, HB⟩ := hcut
  cases kq with
  | zero => exact absurd HA.out (by simp [snap_FromEntry.j0])
  | succ kj1 =>
   have H := HA.out
   clear HA
   simp only [snap_FromEntry.j0] at H
   by_cases c21 : x38_1 = true
   ·subst c21
    rw [if_pos rfl] at H
    simp only [Option.some.injEq, Prod.mk.injEq] at H
    obtain ⟨rfl, rfl, rfl, rfl, rfl⟩ := H
    have hnb22 := NB775_774.out
    have hnc22 := NB774_775.out
    have q23 := cf4 BK775.out
    go_wp2
    refine bodyPost_ret (results_ct rfl _ _ gb775 46 #[.int .u64 0, .int .i64 0, .string (⟨#[]⟩ : ByteArray), .slice none 0 0] (0, 0) _ rfl (by (iterate 4 ((with_reducible repeat (first | refine blk_drewN ?_ _ | refine blk_drew ?_ | refine blk_alloc ?_ _)); refine blk_put (cs := #[.int .u64 0, .int .i64 0, .string (⟨#[]⟩ : ByteArray), .slice none 0 0]) ?_ _ _ rfl)); (with_reducible repeat (first | refine blk_drewN ?_ _ | refine blk_drew ?_ | refine blk_alloc ?_ _)); exact BK775.out) Tryd.underlying46 rfl (by kernel_rfl)) rfl ?_
    exact ⟨_, pE, pZ, pB⟩
   ·replace c21 := Bool.eq_false_iff.mpr c21
    subst c21
    rw [if_neg (show ¬ (false = true) by decide)] at H
    by_cases c24 : 0 < (l0_3.length : Int)
    ·rw [if_pos c24] at H
     have c24b0 : decide (0 < (l0_3.length : Int)) = true := decide_eq_true c24
     have c24b1 : decide (0 < l0_3.length) = true := decide_eq_true (by omega)
     clear c24
     by_cases c25 : 1 < (l0_3.length : Int)
     ·rw [if_pos c25] at H
      have c25b0 : decide (1 < (l0_3.length : Int)) = true := decide_eq_true c25
      have c25b1 : decide (1 < l0_3.length) = true := decide_eq_true (by omega)
      clear c25
      have HH_ := am H
      clear H
      try go_wp2
      replace BK774 := am (blk_drew BK774.out)
      replace BK775 := am (blk_drew BK775.out)
      replace HB := am (below_drew1 HB.out)
      have p779 : 0 ≤ (0 : Int) := (by omega)
      have q779 : 0 < (l0_3.length : Int) := pD
      obtain ⟨ad779, A779_3, c779_3, e779, hx779_0, hx779_1, hx779_2, hx779_3, hl779_3, hi779_3⟩ := at_T26 HR0_3.out 0 p779 q779
      have hw779_3 := hx779_3
      (try rw [show ((0 : Int)).toNat = 0 from rfl] at hw779_3)
      (try rw [show 0 * 4 = 0 from rfl] at hw779_3)
      (try rw [Addr.add_zero'] at hw779_3)
      have hw779_2 := hx779_2
      (try rw [show ((0 : Int)).toNat = 0 from rfl] at hw779_2)
      (try rw [show 0 * 4 = 0 from rfl] at hw779_2)
      (try rw [Addr.add_zero'] at hw779_2)
      have hw779_1 := hx779_1
      (try rw [show ((0 : Int)).toNat = 0 from rfl] at hw779_1)
      (try rw [show 0 * 4 = 0 from rfl] at hw779_1)
      (try rw [Addr.add_zero'] at hw779_1)
      have hw779_0 := hx779_0
      (try rw [show ((0 : Int)).toNat = 0 from rfl] at hw779_0)
      (try rw [show 0 * 4 = 0 from rfl] at hw779_0)
      (try rw [Addr.add_zero'] at hw779_0)
      cases e779
      have qi779 : (0 < l0_3.length) = True := eq_true (by omega)
      (try rw [show ((0 : Int)).toNat = 0 from rfl] at hx779_0)
      (try rw [show 0 * 4 = 0 from rfl] at hx779_0)
      (try rw [Addr.add_zero'] at hx779_0)
      (try rw [show ((0 : Int)).toNat = 0 from rfl] at hx779_1)
      (try rw [show 0 * 4 = 0 from rfl] at hx779_1)
      (try rw [Addr.add_zero'] at hx779_1)
      (try rw [show ((0 : Int)).toNat = 0 from rfl] at hx779_2)
      (try rw [show 0 * 4 = 0 from rfl] at hx779_2)
      (try rw [Addr.add_zero'] at hx779_2)
      (try rw [show ((0 : Int)).toNat = 0 from rfl] at hx779_3)
      (try rw [show 0 * 4 = 0 from rfl] at hx779_3)
      (try rw [Addr.add_zero'] at hx779_3)
      replace hx779_0 := (HB.out.cell (World.block_lt_of_cell? w _ hx779_0)).trans hx779_0
      replace hx779_1 := (HB.out.cell (World.block_lt_of_cell? w _ hx779_1)).trans hx779_1
      replace hx779_2 := (HB.out.cell (World.block_lt_of_cell? w _ hx779_2)).trans hx779_2
      replace hx779_3 := (HB.out.cell (World.block_lt_of_cell? w _ hx779_3)).trans hx779_3
      have HR779_3 := am hi779_3
      have HC779_3 := am hl779_3
      clear hi779_3 hl779_3
      replace p779 := eq_true p779
      replace q779 := eq_true q779
      have p780 : 0 ≤ (1 : Int) := (by omega)
      have q780 : 1 < (l0_3.length : Int) := pD
      obtain ⟨ad780, A780_3, c780_3, e780, hx780_0, hx780_1, hx780_2, hx780_3, hl780_3, hi780_3⟩ := at_T26 HR0_3.out 1 p780 q780
      have hw780_3 := hx780_3
      (try rw [show ((1 : Int)).toNat = 1 from rfl] at hw780_3)
      (try rw [show 1 * 4 = 4 from rfl] at hw780_3)
      (try simp only [Nat.reduceMul, Nat.reduceEqDiff, Go.Addr.add, ↓reduceIte] at hw780_3)
      have hw780_2 := hx780_2
      (try rw [show ((1 : Int)).toNat = 1 from rfl] at hw780_2)
      (try rw [show 1 * 4 = 4 from rfl] at hw780_2)
      (try simp only [Nat.reduceMul, Nat.reduceEqDiff, Go.Addr.add, ↓reduceIte] at hw780_2)
      have hw780_1 := hx780_1
      (try rw [show ((1 : Int)).toNat = 1 from rfl] at hw780_1)
      (try rw [show 1 * 4 = 4 from rfl] at hw780_1)
      (try simp only [Nat.reduceMul, Nat.reduceEqDiff, Go.Addr.add, ↓reduceIte] at hw780_1)
      have hw780_0 := hx780_0
      (try rw [show ((1 : Int)).toNat = 1 from rfl] at hw780_0)
      (try rw [show 1 * 4 = 4 from rfl] at hw780_0)
      (try simp only [Nat.reduceMul, Nat.reduceEqDiff, Go.Addr.add, ↓reduceIte] at hw780_0)
      obtain rfl : ad779 = ad780 := (by injection e780)
      (try simp only [show (1 : Int).toNat = 1 from rfl, Nat.reduceMul, Nat.reduceEqDiff, Go.Addr.add, ↓reduceIte] at hx780_0)
      (try simp only [show (1 : Int).toNat = 1 from rfl, Nat.reduceMul, Nat.reduceEqDiff, Go.Addr.add, ↓reduceIte] at hx780_1)
      (try simp only [show (1 : Int).toNat = 1 from rfl, Nat.reduceMul, Nat.reduceEqDiff, Go.Addr.add, ↓reduceIte] at hx780_2)
      (try simp only [show (1 : Int).toNat = 1 from rfl, Nat.reduceMul, Nat.reduceEqDiff, Go.Addr.add, ↓reduceIte] at hx780_3)
      have qi780 : (1 < l0_3.length) = True := eq_true (by omega)
      (try rw [show ((1 : Int)).toNat = 1 from rfl] at hx780_0)
      (try rw [show 1 * 4 = 4 from rfl] at hx780_0)
      (try rw [show ((1 : Int)).toNat = 1 from rfl] at hx780_1)
      (try rw [show 1 * 4 = 4 from rfl] at hx780_1)
      (try rw [show ((1 : Int)).toNat = 1 from rfl] at hx780_2)
      (try rw [show 1 * 4 = 4 from rfl] at hx780_2)
      (try rw [show ((1 : Int)).toNat = 1 from rfl] at hx780_3)
      (try rw [show 1 * 4 = 4 from rfl] at hx780_3)
      replace hx780_0 := (HB.out.cell (World.block_lt_of_cell? w _ hx780_0)).trans hx780_0
      replace hx780_1 := (HB.out.cell (World.block_lt_of_cell? w _ hx780_1)).trans hx780_1
      replace hx780_2 := (HB.out.cell (World.block_lt_of_cell? w _ hx780_2)).trans hx780_2
      replace hx780_3 := (HB.out.cell (World.block_lt_of_cell? w _ hx780_3)).trans hx780_3
      have HR780_3 := am hi780_3
      have HC780_3 := am hl780_3
      clear hi780_3 hl780_3
      replace p780 := eq_true p780
      replace q780 := eq_true q780
      refine start_ (n := 14) (S := fun w' => w'.cell? ⟨gb774, 0, none⟩ = some (.int .i64 a0_0) ∧ w'.cell? ⟨gb774, 1, none⟩ = some (.int .u64 a0_1) ∧ w'.cell? ⟨gb774, 2, none⟩ = some (.string a0_2) ∧ w'.cell? ⟨gb774, 3, none⟩ = some (.slice (some ad779) l0_3.length c0_3) ∧ w'.cell? ad779 = some (.int .i64 ((rd_T26 l0_3 0).f0)) ∧ w'.cell? ⟨ad779.block, ad779.off + 1, none⟩ = some (.int .u64 ((rd_T26 l0_3 0).f1)) ∧ w'.cell? ⟨ad779.block, ad779.off + 2, none⟩ = some (.string ((rd_T26 l0_3 0).f2)) ∧ w'.cell? ⟨ad779.block, ad779.off + 3, none⟩ = some (.slice A779_3 ((rd_T26 l0_3 0).f3).length c779_3) ∧ w'.cell? ⟨ad779.block, ad779.off + 4, none⟩ = some (.int .i64 ((rd_T26 l0_3 1).f0)) ∧ w'.cell? ⟨ad779.block, ad779.off + 4 + 1, none⟩ = some (.int .u64 ((rd_T26 l0_3 1).f1)) ∧ w'.cell? ⟨ad779.block, ad779.off + 4 + 2, none⟩ = some (.string ((rd_T26 l0_3 1).f2)) ∧ w'.cell? ⟨ad779.block, ad779.off + 4 + 3, none⟩ = some (.slice A780_3 ((rd_T26 l0_3 1).f3).length c780_3)) (ds := []) (bm 14 0) (by kernel_rfl) rfl rfl ⟨cz0 BK774.out, cz1 BK774.out, cz2 BK774.out, cz3 BK774.out, ((HB.out.cell (World.block_lt_of_cell? w _ hw779_0)).trans hw779_0), ((HB.out.cell (World.block_lt_of_cell? w _ hw779_1)).trans hw779_1), ((HB.out.cell (World.block_lt_of_cell? w _ hw779_2)).trans hw779_2), ((HB.out.cell (World.block_lt_of_cell? w _ hw779_3)).trans hw779_3), ((HB.out.cell (World.block_lt_of_cell? w _ hw780_0)).trans hw780_0), ((HB.out.cell (World.block_lt_of_cell? w _ hw780_1)).trans hw780_1), ((HB.out.cell (World.block_lt_of_cell? w _ hw780_2)).trans hw780_2), ((HB.out.cell (World.block_lt_of_cell? w _ hw780_3)).trans hw780_3)⟩ (fun hHeld => ?_); refine with_tabW snap_FromEntry.tab3 snap_FromEntry.bits3 (fun HT_ HW_ => ?_)
      generalize wc.drew = w28 at BK774 BK775 HB HR779_3 HR780_3 hx779_0 hx779_1 hx779_2 hx779_3 hx780_0 hx780_1 hx780_2 hx780_3 hHeld ⊢
      refine pure_ (i := 0) (N := some 40) (v := ?_) (a' := ?_) (bm 14 1) rfl rfl (any_of HT_.out (by kernel_rfl)) (fun _ _ _ h => h) (Or.inl ⟨by kernel_rfl, ?_⟩) ?_ ?_
      rotate_left
      ·intro w'
       go_simp
       with_reducible rfl
      rotate_left
      ·exact pA
      refine pure_ (i := 5) (N := some 45) (v := ?_) (a' := ?_) (bm 14 33) rfl rfl (any_of HT_.out (by kernel_rfl)) (fun _ _ _ h => h) (Or.inl ⟨by kernel_rfl, ?_⟩) ?_ ?_
      rotate_left
      ·intro w'
       go_simp
       with_reducible rfl
      rotate_left
      ·exact pA
      refine take_ (i := 1) (N := some 41) (v := ?_) (a' := ?_) (bm 14 35) rfl rfl (take_ofW HT_.out HW_.out (by kernel_rfl)) (fun _ _ _ h => h) (Or.inl ⟨by kernel_rfl, ?_⟩) hHeld ?_ ?_
      rotate_left
      ·rintro w' ⟨s0, s1, s2, s3, s4, s5, s6, s7, s8, s9, s10, s11⟩
       go_simp
       with_reducible rfl
      rotate_left
      ·exact pA
      refine pure_ (i := 2) (N := some 42) (v := ?_) (a' := ?_) (bm 14 39) rfl rfl (any_of HT_.out (by kernel_rfl)) (fun _ _ _ h => h) (Or.inl ⟨by kernel_rfl, ?_⟩) ?_ ?_
      rotate_left
      ·intro w'
       go_simp
       with_reducible rfl
      rotate_left
      ·exact pA
      refine pure_ (i := 3) (N := some 43) (v := ?_) (a' := ?_) (bm 14 47) rfl rfl (any_of HT_.out (by kernel_rfl)) (fun _ _ _ h => h) (Or.inl ⟨by kernel_rfl, ?_⟩) ?_ ?_
      rotate_left
      ·intro w'
       go_simp
       with_reducible rfl
      rotate_left
      ·exact pA
      refine take_ (i := 4) (N := some 44) (v := ?_) (a' := ?_) (bm 14 63) rfl rfl (take_ofW HT_.out HW_.out (by kernel_rfl)) (fun _ _ _ h => h) (Or.inl ⟨by kernel_rfl, ?_⟩) hHeld ?_ ?_
      rotate_left
      ·rintro w' ⟨s0, s1, s2, s3, s4, s5, s6, s7, s8, s9, s10, s11⟩
       go_simp
       with_reducible rfl
      rotate_left
      ·exact pA
      refine take_ (i := 6) (N := some 46) (v := ?_) (a' := ?_) (bm 14 127) rfl rfl (take_ofW HT_.out HW_.out (by kernel_rfl)) (fun _ _ _ h => h) (Or.inl ⟨by kernel_rfl, ?_⟩) hHeld ?_ ?_
      rotate_left
      ·rintro w' ⟨s0, s1, s2, s3, s4, s5, s6, s7, s8, s9, s10, s11⟩
       go_simp
       with_reducible rfl
      rotate_left
      ·exact pA
      refine pure_ (i := 7) (N := some 47) (v := ?_) (a' := ?_) (bm 14 255) rfl rfl (any_of HT_.out (by kernel_rfl)) (fun _ _ _ h => h) (Or.inl ⟨by kernel_rfl, ?_⟩) ?_ ?_
      rotate_left
      ·intro w'
       go_simp
       with_reducible rfl
      rotate_left
      ·exact pA
      refine pure_ (i := 8) (N := some 48) (v := ?_) (a' := ?_) (bm 14 511) rfl rfl (any_of HT_.out (by kernel_rfl)) (fun _ _ _ h => h) (Or.inl ⟨by kernel_rfl, ?_⟩) ?_ ?_
      rotate_left
      ·intro w'
       go_simp
       with_reducible rfl
      rotate_left
      ·exact pA
      refine take_ (i := 9) (N := some 49) (v := ?_) (a' := ?_) (bm 14 1023) rfl rfl (take_ofW HT_.out HW_.out (by kernel_rfl)) (fun _ _ _ h => h) (Or.inl ⟨by kernel_rfl, ?_⟩) hHeld ?_ ?_
      rotate_left
      ·rintro w' ⟨s0, s1, s2, s3, s4, s5, s6, s7, s8, s9, s10, s11⟩
       go_simp
       with_reducible rfl
      rotate_left
      ·exact pA
      refine pure_ (i := 10) (N := some 50) (v := ?_) (a' := ?_) (bm 14 2047) rfl rfl (any_of HT_.out (by kernel_rfl)) (fun _ _ _ h => h) (Or.inl ⟨by kernel_rfl, ?_⟩) ?_ ?_
      rotate_left
      ·intro w'
       go_simp
       with_reducible rfl
      rotate_left
      ·exact pA
      refine pure_ (i := 11) (N := some 51) (v := ?_) (a' := ?_) (bm 14 4095) rfl rfl (any_of HT_.out (by kernel_rfl)) (fun _ _ _ h => h) (Or.inl ⟨by kernel_rfl, ?_⟩) ?_ ?_
      rotate_left
      ·intro w'
       go_simp
       with_reducible rfl
      rotate_left
      ·exact pA
      refine one_ (i := 12) (N := some 4) (bm 14 8191) rfl rfl (one_of HT_.out (by kernel_rfl)) (by decide) (fun K hK => ?_)
      refine box_step ?hg (N := 4) ?hd (cs := #[.int .u64 0, .int .i64 0, .string (⟨#[]⟩ : ByteArray), .slice none 0 0]) (t := 46) ?hr ?_; (case hd => rfl); (case hg => rfl); (case hr => first | (go_simp; done) | (go_simp; rfl))
      intro gb781 hg w29 hbox hb
      have n0_ := am (pkb BK774.out hb)
      have n1_ := am (pkb BK775.out hb)
      have n2_ := am (below_step pB hb)
      have n3_ := am (hbox)
      have n4_ := am ((by rw [hg]; exact (below_size pB) : w.heap.size ≤ gb781))
      have n5_ := am ((by rw [hg]; exact (below_size pB) : w.heap.size ≤ gb781))
      have n6_ := am ((by rw [hg]; exact Nat.ne_of_lt (pkl BK774.out) : gb774 ≠ gb781))
      have n7_ := am ((by rw [hg]; exact Nat.ne_of_gt (pkl BK774.out) : gb781 ≠ gb774))
      have n8_ := am ((by rw [hg]; exact Nat.ne_of_lt (pkl BK775.out) : gb775 ≠ gb781))
      have n9_ := am ((by rw [hg]; exact Nat.ne_of_gt (pkl BK775.out) : gb781 ≠ gb775))
      clear BK774 BK775 HB; have BK774 := n0_; have BK775 := n1_; have HB := n2_; have BK781 := n3_; have GW781 := n4_; have GE781 := n5_; have NB774_781 := n6_; have NB781_774 := n7_; have NB775_781 := n8_; have NB781_775 := n9_; clear n0_ n1_ n2_ n3_ n4_ n5_ n6_ n7_ n8_ n9_ hb hbox hg
      refine hK.out _ _ ⟨cz0 BK774.out, cz1 BK774.out, cz2 BK774.out, cz3 BK774.out, ((HB.out.cell (World.block_lt_of_cell? w _ hw779_0)).trans hw779_0), ((HB.out.cell (World.block_lt_of_cell? w _ hw779_1)).trans hw779_1), ((HB.out.cell (World.block_lt_of_cell? w _ hw779_2)).trans hw779_2), ((HB.out.cell (World.block_lt_of_cell? w _ hw779_3)).trans hw779_3), ((HB.out.cell (World.block_lt_of_cell? w _ hw780_0)).trans hw780_0), ((HB.out.cell (World.block_lt_of_cell? w _ hw780_1)).trans hw780_1), ((HB.out.cell (World.block_lt_of_cell? w _ hw780_2)).trans hw780_2), ((HB.out.cell (World.block_lt_of_cell? w _ hw780_3)).trans hw780_3)⟩ (fun hHeld => ?_)
      clear hK K
      refine norm_ (a' := ?_) ?_ ?_
      rotate_left
      ·show Act.put _ (some 4) _ = _
       exact pA
      refine one_ (i := 13) (N := none) (bm 14 16383) rfl rfl (one_of HT_.out (by kernel_rfl)) (by decide) (fun K hK => ?_)
      have hs30 : w29.cell? ⟨gb781, 0, none⟩ = some (.int .u64 0) := cz0 BK781.out
      have hfs30 := blk_frozen BK781.out 0
      have hns30_0 := NB774_781.out
      have hns30_1 := NB775_781.out
      have hms30_0 := NB781_774.out
      have hms30_1 := NB781_775.out
      have hs31 : w29.cell? ⟨gb781, 1, none⟩ = some (.int .i64 0) := cz1 BK781.out
      have hfs31 := blk_frozen BK781.out 1
      have hns31_0 := NB774_781.out
      have hns31_1 := NB775_781.out
      have hms31_0 := NB781_774.out
      have hms31_1 := NB781_775.out
      have hs32 : w29.cell? ⟨gb781, 2, none⟩ = some (.string (⟨#[]⟩ : ByteArray)) := cz2 BK781.out
      have hfs32 := blk_frozen BK781.out 2
      have hns32_0 := NB774_781.out
      have hns32_1 := NB775_781.out
      have hms32_0 := NB781_774.out
      have hms32_1 := NB781_775.out
      have hs33 : w29.cell? ⟨gb781, 3, none⟩ = some (.slice none 0 0) := cz3 BK781.out
      have hfs33 := blk_frozen BK781.out 3
      have hns33_0 := NB774_781.out
      have hns33_1 := NB775_781.out
      have hms33_0 := NB781_774.out
      have hms33_1 := NB781_775.out
      refine skip_ (w1 := ?_) ?hw rfl ?_ ?_; (case hw => kernel_rfl)
      rotate_left
      ·go_simp
       rfl
      refine hK.out _ _ ⟨(by (repeat (with_reducible refine (cell_far (p := ⟨gb781, _, none⟩) NB774_781.out _).trans ?_)); exact hHeld.1), (by (repeat (with_reducible refine (cell_far (p := ⟨gb781, _, none⟩) NB774_781.out _).trans ?_)); exact hHeld.2.1), (by (repeat (with_reducible refine (cell_far (p := ⟨gb781, _, none⟩) NB774_781.out _).trans ?_)); exact hHeld.2.2.1), (by (repeat (with_reducible refine (cell_far (p := ⟨gb781, _, none⟩) NB774_781.out _).trans ?_)); exact hHeld.2.2.2.1), (by (repeat (with_reducible refine (cell_far (p := ⟨gb781, _, none⟩) (by first | exact Nat.ne_of_lt (Nat.lt_of_lt_of_le (by have := World.block_lt_of_cell? _ _ hw779_0; first | rwa [add_block] at this | exact this) GW781.out) | (rw [add_block]; exact Nat.ne_of_lt (Nat.lt_of_lt_of_le (by have := World.block_lt_of_cell? _ _ hw779_0; first | rwa [add_block] at this | exact this) GW781.out)) | (show (Addr.add _ _).block ≠ _; rw [add_block]; exact Nat.ne_of_lt (Nat.lt_of_lt_of_le (by have := World.block_lt_of_cell? _ _ hw779_0; first | rwa [add_block] at this | exact this) GW781.out)) | (dsimp only; exact Nat.ne_of_lt (Nat.lt_of_lt_of_le (by have := World.block_lt_of_cell? _ _ hw779_0; first | rwa [add_block] at this | exact this) GW781.out))) _).trans ?_)); exact hHeld.2.2.2.2.1), (by (repeat (with_reducible refine (cell_far (p := ⟨gb781, _, none⟩) (by first | exact Nat.ne_of_lt (Nat.lt_of_lt_of_le (by have := World.block_lt_of_cell? _ _ hw779_1; first | rwa [add_block] at this | exact this) GW781.out) | (rw [add_block]; exact Nat.ne_of_lt (Nat.lt_of_lt_of_le (by have := World.block_lt_of_cell? _ _ hw779_1; first | rwa [add_block] at this | exact this) GW781.out)) | (show (Addr.add _ _).block ≠ _; rw [add_block]; exact Nat.ne_of_lt (Nat.lt_of_lt_of_le (by have := World.block_lt_of_cell? _ _ hw779_1; first | rwa [add_block] at this | exact this) GW781.out)) | (dsimp only; exact Nat.ne_of_lt (Nat.lt_of_lt_of_le (by have := World.block_lt_of_cell? _ _ hw779_1; first | rwa [add_block] at this | exact this) GW781.out))) _).trans ?_)); exact hHeld.2.2.2.2.2.1), (by (repeat (with_reducible refine (cell_far (p := ⟨gb781, _, none⟩) (by first | exact Nat.ne_of_lt (Nat.lt_of_lt_of_le (by have := World.block_lt_of_cell? _ _ hw779_2; first | rwa [add_block] at this | exact this) GW781.out) | (rw [add_block]; exact Nat.ne_of_lt (Nat.lt_of_lt_of_le (by have := World.block_lt_of_cell? _ _ hw779_2; first | rwa [add_block] at this | exact this) GW781.out)) | (show (Addr.add _ _).block ≠ _; rw [add_block]; exact Nat.ne_of_lt (Nat.lt_of_lt_of_le (by have := World.block_lt_of_cell? _ _ hw779_2; first | rwa [add_block] at this | exact this) GW781.out)) | (dsimp only; exact Nat.ne_of_lt (Nat.lt_of_lt_of_le (by have := World.block_lt_of_cell? _ _ hw779_2; first | rwa [add_block] at this | exact this) GW781.out))) _).trans ?_)); exact hHeld.2.2.2.2.2.2.1), (by (repeat (with_reducible refine (cell_far (p := ⟨gb781, _, none⟩) (by first | exact Nat.ne_of_lt (Nat.lt_of_lt_of_le (by have := World.block_lt_of_cell? _ _ hw779_3; first | rwa [add_block] at this | exact this) GW781.out) | (rw [add_block]; exact Nat.ne_of_lt (Nat.lt_of_lt_of_le (by have := World.block_lt_of_cell? _ _ hw779_3; first | rwa [add_block] at this | exact this) GW781.out)) | (show (Addr.add _ _).block ≠ _; rw [add_block]; exact Nat.ne_of_lt (Nat.lt_of_lt_of_le (by have := World.block_lt_of_cell? _ _ hw779_3; first | rwa [add_block] at this | exact this) GW781.out)) | (dsimp only; exact Nat.ne_of_lt (Nat.lt_of_lt_of_le (by have := World.block_lt_of_cell? _ _ hw779_3; first | rwa [add_block] at this | exact this) GW781.out))) _).trans ?_)); exact hHeld.2.2.2.2.2.2.2.1), (by (repeat (with_reducible refine (cell_far (p := ⟨gb781, _, none⟩) (by first | exact Nat.ne_of_lt (Nat.lt_of_lt_of_le (by have := World.block_lt_of_cell? _ _ hw780_0; first | rwa [add_block] at this | exact this) GW781.out) | (rw [add_block]; exact Nat.ne_of_lt (Nat.lt_of_lt_of_le (by have := World.block_lt_of_cell? _ _ hw780_0; first | rwa [add_block] at this | exact this) GW781.out)) | (show (Addr.add _ _).block ≠ _; rw [add_block]; exact Nat.ne_of_lt (Nat.lt_of_lt_of_le (by have := World.block_lt_of_cell? _ _ hw780_0; first | rwa [add_block] at this | exact this) GW781.out)) | (dsimp only; exact Nat.ne_of_lt (Nat.lt_of_lt_of_le (by have := World.block_lt_of_cell? _ _ hw780_0; first | rwa [add_block] at this | exact this) GW781.out))) _).trans ?_)); exact hHeld.2.2.2.2.2.2.2.2.1), (by (repeat (with_reducible refine (cell_far (p := ⟨gb781, _, none⟩) (by first | exact Nat.ne_of_lt (Nat.lt_of_lt_of_le (by have := World.block_lt_of_cell? _ _ hw780_1; first | rwa [add_block] at this | exact this) GW781.out) | (rw [add_block]; exact Nat.ne_of_lt (Nat.lt_of_lt_of_le (by have := World.block_lt_of_cell? _ _ hw780_1; first | rwa [add_block] at this | exact this) GW781.out)) | (show (Addr.add _ _).block ≠ _; rw [add_block]; exact Nat.ne_of_lt (Nat.lt_of_lt_of_le (by have := World.block_lt_of_cell? _ _ hw780_1; first | rwa [add_block] at this | exact this) GW781.out)) | (dsimp only; exact Nat.ne_of_lt (Nat.lt_of_lt_of_le (by have := World.block_lt_of_cell? _ _ hw780_1; first | rwa [add_block] at this | exact this) GW781.out))) _).trans ?_)); exact hHeld.2.2.2.2.2.2.2.2.2.1), (by (repeat (with_reducible refine (cell_far (p := ⟨gb781, _, none⟩) (by first | exact Nat.ne_of_lt (Nat.lt_of_lt_of_le (by have := World.block_lt_of_cell? _ _ hw780_2; first | rwa [add_block] at this | exact this) GW781.out) | (rw [add_block]; exact Nat.ne_of_lt (Nat.lt_of_lt_of_le (by have := World.block_lt_of_cell? _ _ hw780_2; first | rwa [add_block] at this | exact this) GW781.out)) | (show (Addr.add _ _).block ≠ _; rw [add_block]; exact Nat.ne_of_lt (Nat.lt_of_lt_of_le (by have := World.block_lt_of_cell? _ _ hw780_2; first | rwa [add_block] at this | exact this) GW781.out)) | (dsimp only; exact Nat.ne_of_lt (Nat.lt_of_lt_of_le (by have := World.block_lt_of_cell? _ _ hw780_2; first | rwa [add_block] at this | exact this) GW781.out))) _).trans ?_)); exact hHeld.2.2.2.2.2.2.2.2.2.2.1), (by (repeat (with_reducible refine (cell_far (p := ⟨gb781, _, none⟩) (by first | exact Nat.ne_of_lt (Nat.lt_of_lt_of_le (by have := World.block_lt_of_cell? _ _ hw780_3; first | rwa [add_block] at this | exact this) GW781.out) | (rw [add_block]; exact Nat.ne_of_lt (Nat.lt_of_lt_of_le (by have := World.block_lt_of_cell? _ _ hw780_3; first | rwa [add_block] at this | exact this) GW781.out)) | (show (Addr.add _ _).block ≠ _; rw [add_block]; exact Nat.ne_of_lt (Nat.lt_of_lt_of_le (by have := World.block_lt_of_cell? _ _ hw780_3; first | rwa [add_block] at this | exact this) GW781.out)) | (dsimp only; exact Nat.ne_of_lt (Nat.lt_of_lt_of_le (by have := World.block_lt_of_cell? _ _ hw780_3; first | rwa [add_block] at this | exact this) GW781.out))) _).trans ?_)); exact hHeld.2.2.2.2.2.2.2.2.2.2.2)⟩ (fun hHeld => ?_)
      clear hK K
      refine done_ (done_of HT_.out (by kernel_rfl)) ?_
      have H := HH_.out
      clear HH_
      by_cases c26 : (wrap64 ((rd_T26 l0_3 1).f1)) = 0
      ·rw [if_pos c26] at H
       have c26b0 : ((wrap64 ((rd_T26 l0_3 1).f1)) == 0) = true := beq_iff_eq.mpr c26
       have c26b1 : ((wrap64 ((rd_T26 l0_3 1).f1)) != 0) = false := bne_eq_false_iff_eq.mpr c26
       clear c26
       by_cases c27 : ((l0_3.length : Int) = 2)
       ·rw [if_pos c27] at H
        have c27b0 : ((l0_3.length : Int) == 2) = true := beq_iff_eq.mpr c27
        have c27b1 : ((l0_3.length : Int) != 2) = false := bne_eq_false_iff_eq.mpr c27
        clear c27
        simp only [Option.some.injEq, Prod.mk.injEq] at H
        obtain ⟨rfl, rfl, rfl, rfl, rfl⟩ := H
        have hnb34 := NB781_774.out
        have hnc34 := NB774_781.out
        have hnb35 := NB781_775.out
        have hnc35 := NB775_781.out
        have q36 := cf4 BK781.out
        have hnb37 := NB774_775.out
        have hnc37 := NB775_774.out
        have q38 := cf4 BK774.out
        have q39 := cf4 BK775.out
        try go_wp2
        refine bodyPost_ret (results_ct rfl _ _ gb775 46 #[.int .u64 ((rd_T26 l0_3 0).f1), .int .i64 (wrap64 ((rd_T26 l0_3 1).f1)), .string (⟨#[]⟩ : ByteArray), .slice none 0 0] (0, 0) _ rfl (by (iterate 2 ((with_reducible repeat (first | refine blk_drewN ?_ _ | refine blk_drew ?_ | refine blk_alloc ?_ _)); refine blk_put (cs := #[.int .u64 ((rd_T26 l0_3 0).f1), .int .i64 (wrap64 ((rd_T26 l0_3 1).f1)), .string (⟨#[]⟩ : ByteArray), .slice none 0 0]) ?_ _ _ rfl)); (with_reducible repeat (first | refine blk_drewN ?_ _ | refine blk_drew ?_ | refine blk_alloc ?_ _)); refine blk_put (cs := #[.int .u64 ((rd_T26 l0_3 0).f1), .int .i64 0, .string (⟨#[]⟩ : ByteArray), .slice none 0 0]) ?_ 1 _ rfl; (with_reducible repeat (first | refine blk_drewN ?_ _ | refine blk_drew ?_ | refine blk_alloc ?_ _)); refine blk_put (cs := #[.int .u64 0, .int .i64 0, .string (⟨#[]⟩ : ByteArray), .slice none 0 0]) ?_ 0 _ rfl; (with_reducible repeat (first | refine blk_drewN ?_ _ | refine blk_drew ?_ | refine blk_alloc ?_ _)); refine blk_far ?_ NB775_781.out _; (with_reducible repeat (first | refine blk_drewN ?_ _ | refine blk_drew ?_ | refine blk_alloc ?_ _)); refine blk_far ?_ NB775_781.out _; (with_reducible repeat (first | refine blk_drewN ?_ _ | refine blk_drew ?_ | refine blk_alloc ?_ _)); refine blk_far ?_ NB775_781.out _; (with_reducible repeat (first | refine blk_drewN ?_ _ | refine blk_drew ?_ | refine blk_alloc ?_ _)); refine blk_far ?_ NB775_781.out _; (with_reducible repeat (first | refine blk_drewN ?_ _ | refine blk_drew ?_ | refine blk_alloc ?_ _)); exact BK775.out) Tryd.underlying46 rfl (by kernel_rfl)) rfl ?_
        exact ⟨_, pE, pZ, pB⟩
       ·rw [if_neg c27] at H
        have c27b0 : ((l0_3.length : Int) == 2) = false := beq_eq_false_iff_ne.mpr c27
        have c27b1 : ((l0_3.length : Int) != 2) = true := bne_iff_ne.mpr c27
        simp only [Option.some.injEq, Prod.mk.injEq] at H
        obtain ⟨rfl, rfl, rfl, rfl, rfl⟩ := H
        have hnb46 := NB781_774.out
        have hnc46 := NB774_781.out
        have hnb47 := NB781_775.out
        have hnc47 := NB775_781.out
        have q48 := cf4 BK781.out
        have hnb49 := NB774_775.out
        have hnc49 := NB775_774.out
        have q50 := cf4 BK774.out
        have q51 := cf4 BK775.out
        try go_wp2
        refine bodyPost_ret (results_ct rfl _ _ gb775 46 #[.int .u64 0, .int .i64 0, .string (⟨#[]⟩ : ByteArray), .slice none 0 0] (0, 0) _ rfl (by (iterate 4 ((with_reducible repeat (first | refine blk_drewN ?_ _ | refine blk_drew ?_ | refine blk_alloc ?_ _)); refine blk_put (cs := #[.int .u64 0, .int .i64 0, .string (⟨#[]⟩ : ByteArray), .slice none 0 0]) ?_ _ _ rfl)); (with_reducible repeat (first | refine blk_drewN ?_ _ | refine blk_drew ?_ | refine blk_alloc ?_ _)); refine blk_far ?_ NB775_781.out _; (with_reducible repeat (first | refine blk_drewN ?_ _ | refine blk_drew ?_ | refine blk_alloc ?_ _)); refine blk_far ?_ NB775_781.out _; (with_reducible repeat (first | refine blk_drewN ?_ _ | refine blk_drew ?_ | refine blk_alloc ?_ _)); refine blk_far ?_ NB775_781.out _; (with_reducible repeat (first | refine blk_drewN ?_ _ | refine blk_drew ?_ | refine blk_alloc ?_ _)); refine blk_far ?_ NB775_781.out _; (with_reducible repeat (first | refine blk_drewN ?_ _ | refine blk_drew ?_ | refine blk_alloc ?_ _)); exact BK775.out) Tryd.underlying46 rfl (by kernel_rfl)) rfl ?_
        exact ⟨_, pE, pZ, pB⟩
      ·rw [if_neg c26] at H
       have c26b0 : ((wrap64 ((rd_T26 l0_3 1).f1)) == 0) = false := beq_eq_false_iff_ne.mpr c26
       have c26b1 : ((wrap64 ((rd_T26 l0_3 1).f1)) != 0) = true := bne_iff_ne.mpr c26
       by_cases c52 : (l0_3.length : Int) = 3
       ·rw [if_pos c52] at H
        have c52b0 : ((l0_3.length : Int) == 3) = true := beq_iff_eq.mpr c52
        have c52b1 : ((l0_3.length : Int) != 3) = false := bne_eq_false_iff_eq.mpr c52
        clear c52
        by_cases c53 : (wrap64 ((rd_T26 l0_3 1).f1)) = 1
        ·rw [if_pos c53] at H
         have c53b0 : ((wrap64 ((rd_T26 l0_3 1).f1)) == 1) = true := beq_iff_eq.mpr c53
         have c53b1 : ((wrap64 ((rd_T26 l0_3 1).f1)) != 1) = false := bne_eq_false_iff_eq.mpr c53
         clear c53
         by_cases c54 : 2 < (l0_3.length : Int)
         ·rw [if_pos c54] at H
          have c54b0 : decide (2 < (l0_3.length : Int)) = true := decide_eq_true c54
          have c54b1 : decide (2 < l0_3.length) = true := decide_eq_true (by omega)
          clear c54
          by_cases c55 : ((rd_T26 l0_3 2).f0) = 1
          ·rw [if_pos c55] at H
           have c55b0 : (((rd_T26 l0_3 2).f0) == 1) = true := beq_iff_eq.mpr c55
           have c55b1 : (((rd_T26 l0_3 2).f0) != 1) = false := bne_eq_false_iff_eq.mpr c55
           clear c55
           have HH_ := am H
           clear H
           have hnb63 := NB781_774.out
           have hnc63 := NB774_781.out
           have hnb64 := NB781_775.out
           have hnc64 := NB775_781.out
           have q65 := cf4 BK781.out
           have hnb66 := NB774_775.out
           have hnc66 := NB775_774.out
           have q67 := cf4 BK774.out
           try go_wp2
           have n0_ : Aside0 (((((w29.setCell ⟨gb781, 0, none⟩ (.int .u64 ((rd_T26 l0_3 0).f1))).setCell ⟨gb781, 1, none⟩ (.int .i64 (wrap64 ((rd_T26 l0_3 1).f1)))).setCell ⟨gb781, 2, none⟩ (.string (⟨#[]⟩ : ByteArray))).setCell ⟨gb781, 3, none⟩ (.slice none 0 0)).heap[gb774]? = some (.cells #[.int .i64 a0_0, .int .u64 a0_1, .string a0_2, .slice (some ad779) l0_3.length c0_3] 26 (0, 0))) := ⟨by (with_reducible repeat (first | refine blk_drewN ?_ _ | refine blk_drew ?_ | refine blk_alloc ?_ _)); refine blk_far ?_ NB774_781.out _; (with_reducible repeat (first | refine blk_drewN ?_ _ | refine blk_drew ?_ | refine blk_alloc ?_ _)); refine blk_far ?_ NB774_781.out _; (with_reducible repeat (first | refine blk_drewN ?_ _ | refine blk_drew ?_ | refine blk_alloc ?_ _)); refine blk_far ?_ NB774_781.out _; (with_reducible repeat (first | refine blk_drewN ?_ _ | refine blk_drew ?_ | refine blk_alloc ?_ _)); refine blk_far ?_ NB774_781.out _; (with_reducible repeat (first | refine blk_drewN ?_ _ | refine blk_drew ?_ | refine blk_alloc ?_ _)); exact BK774.out⟩
           have n1_ : Aside0 (((((w29.setCell ⟨gb781, 0, none⟩ (.int .u64 ((rd_T26 l0_3 0).f1))).setCell ⟨gb781, 1, none⟩ (.int .i64 (wrap64 ((rd_T26 l0_3 1).f1)))).setCell ⟨gb781, 2, none⟩ (.string (⟨#[]⟩ : ByteArray))).setCell ⟨gb781, 3, none⟩ (.slice none 0 0)).heap[gb775]? = some (.cells #[.int .u64 0, .int .i64 0, .string (⟨#[]⟩ : ByteArray), .slice none 0 0] 46 (0, 0))) := ⟨by (with_reducible repeat (first | refine blk_drewN ?_ _ | refine blk_drew ?_ | refine blk_alloc ?_ _)); refine blk_far ?_ NB775_781.out _; (with_reducible repeat (first | refine blk_drewN ?_ _ | refine blk_drew ?_ | refine blk_alloc ?_ _)); refine blk_far ?_ NB775_781.out _; (with_reducible repeat (first | refine blk_drewN ?_ _ | refine blk_drew ?_ | refine blk_alloc ?_ _)); refine blk_far ?_ NB775_781.out _; (with_reducible repeat (first | refine blk_drewN ?_ _ | refine blk_drew ?_ | refine blk_alloc ?_ _)); refine blk_far ?_ NB775_781.out _; (with_reducible repeat (first | refine blk_drewN ?_ _ | refine blk_drew ?_ | refine blk_alloc ?_ _)); exact BK775.out⟩
           have n2_ : Aside0 (((((w29.setCell ⟨gb781, 0, none⟩ (.int .u64 ((rd_T26 l0_3 0).f1))).setCell ⟨gb781, 1, none⟩ (.int .i64 (wrap64 ((rd_T26 l0_3 1).f1)))).setCell ⟨gb781, 2, none⟩ (.string (⟨#[]⟩ : ByteArray))).setCell ⟨gb781, 3, none⟩ (.slice none 0 0)).heap[gb781]? = some (.cells #[.int .u64 ((rd_T26 l0_3 0).f1), .int .i64 (wrap64 ((rd_T26 l0_3 1).f1)), .string (⟨#[]⟩ : ByteArray), .slice none 0 0] 46 (0, 0))) := ⟨by (iterate 2 ((with_reducible repeat (first | refine blk_drewN ?_ _ | refine blk_drew ?_ | refine blk_alloc ?_ _)); refine blk_put (cs := #[.int .u64 ((rd_T26 l0_3 0).f1), .int .i64 (wrap64 ((rd_T26 l0_3 1).f1)), .string (⟨#[]⟩ : ByteArray), .slice none 0 0]) ?_ _ _ rfl)); (with_reducible repeat (first | refine blk_drewN ?_ _ | refine blk_drew ?_ | refine blk_alloc ?_ _)); refine blk_put (cs := #[.int .u64 ((rd_T26 l0_3 0).f1), .int .i64 0, .string (⟨#[]⟩ : ByteArray), .slice none 0 0]) ?_ 1 _ rfl; (with_reducible repeat (first | refine blk_drewN ?_ _ | refine blk_drew ?_ | refine blk_alloc ?_ _)); refine blk_put (cs := #[.int .u64 0, .int .i64 0, .string (⟨#[]⟩ : ByteArray), .slice none 0 0]) ?_ 0 _ rfl; (with_reducible repeat (first | refine blk_drewN ?_ _ | refine blk_drew ?_ | refine blk_alloc ?_ _)); exact BK781.out⟩
           have n3_ : Aside0 (Below w.heap.size w ((((w29.setCell ⟨gb781, 0, none⟩ (.int .u64 ((rd_T26 l0_3 0).f1))).setCell ⟨gb781, 1, none⟩ (.int .i64 (wrap64 ((rd_T26 l0_3 1).f1)))).setCell ⟨gb781, 2, none⟩ (.string (⟨#[]⟩ : ByteArray))).setCell ⟨gb781, 3, none⟩ (.slice none 0 0))) := ⟨pB⟩
           (try clear BK774); (try clear BK775); (try clear BK781); (try clear HB)
           generalize ((((w29.setCell ⟨gb781, 0, none⟩ (.int .u64 ((rd_T26 l0_3 0).f1))).setCell ⟨gb781, 1, none⟩ (.int .i64 (wrap64 ((rd_T26 l0_3 1).f1)))).setCell ⟨gb781, 2, none⟩ (.string (⟨#[]⟩ : ByteArray))).setCell ⟨gb781, 3, none⟩ (.slice none 0 0)) = w68 at n0_ n1_ n2_ n3_ ⊢
           have BK774 := n0_; have BK775 := n1_; have BK781 := n2_; have HB := n3_; clear n0_ n1_ n2_ n3_
           replace BK774 := am (blk_drew BK774.out)
           replace BK775 := am (blk_drew BK775.out)
           replace BK781 := am (blk_drew BK781.out)
           replace HB := am (below_drew1 HB.out)
           have p782 : 0 ≤ (2 : Int) := (by omega)
           have q782 : 2 < (l0_3.length : Int) := pD
           obtain ⟨ad782, A782_3, c782_3, e782, hx782_0, hx782_1, hx782_2, hx782_3, hl782_3, hi782_3⟩ := at_T26 HR0_3.out 2 p782 q782
           have hw782_3 := hx782_3
           (try rw [show ((2 : Int)).toNat = 2 from rfl] at hw782_3)
           (try rw [show 2 * 4 = 8 from rfl] at hw782_3)
           (try simp only [Nat.reduceMul, Nat.reduceEqDiff, Go.Addr.add, ↓reduceIte] at hw782_3)
           have hw782_2 := hx782_2
           (try rw [show ((2 : Int)).toNat = 2 from rfl] at hw782_2)
           (try rw [show 2 * 4 = 8 from rfl] at hw782_2)
           (try simp only [Nat.reduceMul, Nat.reduceEqDiff, Go.Addr.add, ↓reduceIte] at hw782_2)
           have hw782_1 := hx782_1
           (try rw [show ((2 : Int)).toNat = 2 from rfl] at hw782_1)
           (try rw [show 2 * 4 = 8 from rfl] at hw782_1)
           (try simp only [Nat.reduceMul, Nat.reduceEqDiff, Go.Addr.add, ↓reduceIte] at hw782_1)
           have hw782_0 := hx782_0
           (try rw [show ((2 : Int)).toNat = 2 from rfl] at hw782_0)
           (try rw [show 2 * 4 = 8 from rfl] at hw782_0)
           (try simp only [Nat.reduceMul, Nat.reduceEqDiff, Go.Addr.add, ↓reduceIte] at hw782_0)
           obtain rfl : ad779 = ad782 := (by injection e782)
           (try simp only [show (2 : Int).toNat = 2 from rfl, Nat.reduceMul, Nat.reduceEqDiff, Go.Addr.add, ↓reduceIte] at hx782_0)
           (try simp only [show (2 : Int).toNat = 2 from rfl, Nat.reduceMul, Nat.reduceEqDiff, Go.Addr.add, ↓reduceIte] at hx782_1)
           (try simp only [show (2 : Int).toNat = 2 from rfl, Nat.reduceMul, Nat.reduceEqDiff, Go.Addr.add, ↓reduceIte] at hx782_2)
           (try simp only [show (2 : Int).toNat = 2 from rfl, Nat.reduceMul, Nat.reduceEqDiff, Go.Addr.add, ↓reduceIte] at hx782_3)
           have qi782 : (2 < l0_3.length) = True := eq_true (by omega)
           (try rw [show ((2 : Int)).toNat = 2 from rfl] at hx782_0)
           (try rw [show 2 * 4 = 8 from rfl] at hx782_0)
           (try rw [show ((2 : Int)).toNat = 2 from rfl] at hx782_1)
           (try rw [show 2 * 4 = 8 from rfl] at hx782_1)
           (try rw [show ((2 : Int)).toNat = 2 from rfl] at hx782_2)
           (try rw [show 2 * 4 = 8 from rfl] at hx782_2)
           (try rw [show ((2 : Int)).toNat = 2 from rfl] at hx782_3)
           (try rw [show 2 * 4 = 8 from rfl] at hx782_3)
           replace hx782_0 := (HB.out.cell (World.block_lt_of_cell? w _ hx782_0)).trans hx782_0
           replace hx782_1 := (HB.out.cell (World.block_lt_of_cell? w _ hx782_1)).trans hx782_1
           replace hx782_2 := (HB.out.cell (World.block_lt_of_cell? w _ hx782_2)).trans hx782_2
           replace hx782_3 := (HB.out.cell (World.block_lt_of_cell? w _ hx782_3)).trans hx782_3
           have HR782_3 := am hi782_3
           have HC782_3 := am hl782_3
           clear hi782_3 hl782_3
           replace p782 := eq_true p782
           replace q782 := eq_true q782
           have p783 : 0 ≤ (2 : Int) := (by omega)
           have q783 : 2 < (l0_3.length : Int) := pD
           obtain ⟨ad783, A783_3, c783_3, e783, hx783_0, hx783_1, hx783_2, hx783_3, hl783_3, hi783_3⟩ := at_T26 HR0_3.out 2 p783 q783
           have hw783_3 := hx783_3
           (try rw [show ((2 : Int)).toNat = 2 from rfl] at hw783_3)
           (try rw [show 2 * 4 = 8 from rfl] at hw783_3)
           (try simp only [Nat.reduceMul, Nat.reduceEqDiff, Go.Addr.add, ↓reduceIte] at hw783_3)
           have hw783_2 := hx783_2
           (try rw [show ((2 : Int)).toNat = 2 from rfl] at hw783_2)
           (try rw [show 2 * 4 = 8 from rfl] at hw783_2)
           (try simp only [Nat.reduceMul, Nat.reduceEqDiff, Go.Addr.add, ↓reduceIte] at hw783_2)
           have hw783_1 := hx783_1
           (try rw [show ((2 : Int)).toNat = 2 from rfl] at hw783_1)
           (try rw [show 2 * 4 = 8 from rfl] at hw783_1)
           (try simp only [Nat.reduceMul, Nat.reduceEqDiff, Go.Addr.add, ↓reduceIte] at hw783_1)
           have hw783_0 := hx783_0
           (try rw [show ((2 : Int)).toNat = 2 from rfl] at hw783_0)
           (try rw [show 2 * 4 = 8 from rfl] at hw783_0)
           (try simp only [Nat.reduceMul, Nat.reduceEqDiff, Go.Addr.add, ↓reduceIte] at hw783_0)
           obtain rfl : ad779 = ad783 := (by injection e783)
           (try simp only [show (2 : Int).toNat = 2 from rfl, Nat.reduceMul, Nat.reduceEqDiff, Go.Addr.add, ↓reduceIte] at hx783_0)
           (try simp only [show (2 : Int).toNat = 2 from rfl, Nat.reduceMul, Nat.reduceEqDiff, Go.Addr.add, ↓reduceIte] at hx783_1)
           (try simp only [show (2 : Int).toNat = 2 from rfl, Nat.reduceMul, Nat.reduceEqDiff, Go.Addr.add, ↓reduceIte] at hx783_2)
           (try simp only [show (2 : Int).toNat = 2 from rfl, Nat.reduceMul, Nat.reduceEqDiff, Go.Addr.add, ↓reduceIte] at hx783_3)
           have qi783 : (2 < l0_3.length) = True := eq_true (by omega)
           (try rw [show ((2 : Int)).toNat = 2 from rfl] at hx783_0)
           (try rw [show 2 * 4 = 8 from rfl] at hx783_0)
           (try rw [show ((2 : Int)).toNat = 2 from rfl] at hx783_1)
           (try rw [show 2 * 4 = 8 from rfl] at hx783_1)
           (try rw [show ((2 : Int)).toNat = 2 from rfl] at hx783_2)
           (try rw [show 2 * 4 = 8 from rfl] at hx783_2)
           (try rw [show ((2 : Int)).toNat = 2 from rfl] at hx783_3)
           (try rw [show 2 * 4 = 8 from rfl] at hx783_3)
           replace hx783_0 := (HB.out.cell (World.block_lt_of_cell? w _ hx783_0)).trans hx783_0
           replace hx783_1 := (HB.out.cell (World.block_lt_of_cell? w _ hx783_1)).trans hx783_1
           replace hx783_2 := (HB.out.cell (World.block_lt_of_cell? w _ hx783_2)).trans hx783_2
           replace hx783_3 := (HB.out.cell (World.block_lt_of_cell? w _ hx783_3)).trans hx783_3
           have HR783_3 := am hi783_3
           have HC783_3 := am hl783_3
           clear hi783_3 hl783_3
           replace p783 := eq_true p783
           replace q783 := eq_true q783
           have ea_ := Option.some.inj (hx782_3.symm.trans hx783_3)
           injection ea_ with ea_ en_ ec_
           subst ea_
           subst ec_
           clear en_
           have p784 : 0 ≤ (2 : Int) := (by omega)
           have q784 : 2 < (l0_3.length : Int) := pD
           obtain ⟨ad784, A784_3, c784_3, e784, hx784_0, hx784_1, hx784_2, hx784_3, hl784_3, hi784_3⟩ := at_T26 HR0_3.out 2 p784 q784
           have hw784_3 := hx784_3
           (try rw [show ((2 : Int)).toNat = 2 from rfl] at hw784_3)
           (try rw [show 2 * 4 = 8 from rfl] at hw784_3)
           (try simp only [Nat.reduceMul, Nat.reduceEqDiff, Go.Addr.add, ↓reduceIte] at hw784_3)
           have hw784_2 := hx784_2
           (try rw [show ((2 : Int)).toNat = 2 from rfl] at hw784_2)
           (try rw [show 2 * 4 = 8 from rfl] at hw784_2)
           (try simp only [Nat.reduceMul, Nat.reduceEqDiff, Go.Addr.add, ↓reduceIte] at hw784_2)
           have hw784_1 := hx784_1
           (try rw [show ((2 : Int)).toNat = 2 from rfl] at hw784_1)
           (try rw [show 2 * 4 = 8 from rfl] at hw784_1)
           (try simp only [Nat.reduceMul, Nat.reduceEqDiff, Go.Addr.add, ↓reduceIte] at hw784_1)
           have hw784_0 := hx784_0
           (try rw [show ((2 : Int)).toNat = 2 from rfl] at hw784_0)
           (try rw [show 2 * 4 = 8 from rfl] at hw784_0)
           (try simp only [Nat.reduceMul, Nat.reduceEqDiff, Go.Addr.add, ↓reduceIte] at hw784_0)
           obtain rfl : ad779 = ad784 := (by injection e784)
           (try simp only [show (2 : Int).toNat = 2 from rfl, Nat.reduceMul, Nat.reduceEqDiff, Go.Addr.add, ↓reduceIte] at hx784_0)
           (try simp only [show (2 : Int).toNat = 2 from rfl, Nat.reduceMul, Nat.reduceEqDiff, Go.Addr.add, ↓reduceIte] at hx784_1)
           (try simp only [show (2 : Int).toNat = 2 from rfl, Nat.reduceMul, Nat.reduceEqDiff, Go.Addr.add, ↓reduceIte] at hx784_2)
           (try simp only [show (2 : Int).toNat = 2 from rfl, Nat.reduceMul, Nat.reduceEqDiff, Go.Addr.add, ↓reduceIte] at hx784_3)
           have qi784 : (2 < l0_3.length) = True := eq_true (by omega)
           (try rw [show ((2 : Int)).toNat = 2 from rfl] at hx784_0)
           (try rw [show 2 * 4 = 8 from rfl] at hx784_0)
           (try rw [show ((2 : Int)).toNat = 2 from rfl] at hx784_1)
           (try rw [show 2 * 4 = 8 from rfl] at hx784_1)
           (try rw [show ((2 : Int)).toNat = 2 from rfl] at hx784_2)
           (try rw [show 2 * 4 = 8 from rfl] at hx784_2)
           (try rw [show ((2 : Int)).toNat = 2 from rfl] at hx784_3)
           (try rw [show 2 * 4 = 8 from rfl] at hx784_3)
           replace hx784_0 := (HB.out.cell (World.block_lt_of_cell? w _ hx784_0)).trans hx784_0
           replace hx784_1 := (HB.out.cell (World.block_lt_of_cell? w _ hx784_1)).trans hx784_1
           replace hx784_2 := (HB.out.cell (World.block_lt_of_cell? w _ hx784_2)).trans hx784_2
           replace hx784_3 := (HB.out.cell (World.block_lt_of_cell? w _ hx784_3)).trans hx784_3
           have HR784_3 := am hi784_3
           have HC784_3 := am hl784_3
           clear hi784_3 hl784_3
           replace p784 := eq_true p784
           replace q784 := eq_true q784
           have ea_ := Option.some.inj (hx782_3.symm.trans hx784_3)
           injection ea_ with ea_ en_ ec_
           subst ea_
           subst ec_
           clear en_
           refine start_ (n := 23) (S := fun w' => w'.cell? ⟨gb774, 0, none⟩ = some (.int .i64 a0_0) ∧ w'.cell? ⟨gb774, 1, none⟩ = some (.int .u64 a0_1) ∧ w'.cell? ⟨gb774, 2, none⟩ = some (.string a0_2) ∧ w'.cell? ⟨gb774, 3, none⟩ = some (.slice (some ad779) l0_3.length c0_3) ∧ w'.cell? ⟨ad779.block, ad779.off + 8, none⟩ = some (.int .i64 ((rd_T26 l0_3 2).f0)) ∧ w'.cell? ⟨ad779.block, ad779.off + 8 + 1, none⟩ = some (.int .u64 ((rd_T26 l0_3 2).f1)) ∧ w'.cell? ⟨ad779.block, ad779.off + 8 + 2, none⟩ = some (.string ((rd_T26 l0_3 2).f2)) ∧ w'.cell? ⟨ad779.block, ad779.off + 8 + 3, none⟩ = some (.slice A782_3 ((rd_T26 l0_3 2).f3).length c782_3) ∧ w'.cell? ⟨ad779.block, ad779.off + 8, none⟩ = some (.int .i64 ((rd_T26 l0_3 2).f0)) ∧ w'.cell? ⟨ad779.block, ad779.off + 8 + 1, none⟩ = some (.int .u64 ((rd_T26 l0_3 2).f1)) ∧ w'.cell? ⟨ad779.block, ad779.off + 8 + 2, none⟩ = some (.string ((rd_T26 l0_3 2).f2)) ∧ w'.cell? ⟨ad779.block, ad779.off + 8 + 3, none⟩ = some (.slice A782_3 ((rd_T26 l0_3 2).f3).length c782_3) ∧ w'.cell? ⟨ad779.block, ad779.off + 8, none⟩ = some (.int .i64 ((rd_T26 l0_3 2).f0)) ∧ w'.cell? ⟨ad779.block, ad779.off + 8 + 1, none⟩ = some (.int .u64 ((rd_T26 l0_3 2).f1)) ∧ w'.cell? ⟨ad779.block, ad779.off + 8 + 2, none⟩ = some (.string ((rd_T26 l0_3 2).f2)) ∧ w'.cell? ⟨ad779.block, ad779.off + 8 + 3, none⟩ = some (.slice A782_3 ((rd_T26 l0_3 2).f3).length c782_3)) (ds := []) (bm 23 0) (by kernel_rfl) rfl rfl ⟨cz0 BK774.out, cz1 BK774.out, cz2 BK774.out, cz3 BK774.out, ((HB.out.cell (World.block_lt_of_cell? w _ hw782_0)).trans hw782_0), ((HB.out.cell (World.block_lt_of_cell? w _ hw782_1)).trans hw782_1), ((HB.out.cell (World.block_lt_of_cell? w _ hw782_2)).trans hw782_2), ((HB.out.cell (World.block_lt_of_cell? w _ hw782_3)).trans hw782_3), ((HB.out.cell (World.block_lt_of_cell? w _ hw783_0)).trans hw783_0), ((HB.out.cell (World.block_lt_of_cell? w _ hw783_1)).trans hw783_1), ((HB.out.cell (World.block_lt_of_cell? w _ hw783_2)).trans hw783_2), ((HB.out.cell (World.block_lt_of_cell? w _ hw783_3)).trans hw783_3), ((HB.out.cell (World.block_lt_of_cell? w _ hw784_0)).trans hw784_0), ((HB.out.cell (World.block_lt_of_cell? w _ hw784_1)).trans hw784_1), ((HB.out.cell (World.block_lt_of_cell? w _ hw784_2)).trans hw784_2), ((HB.out.cell (World.block_lt_of_cell? w _ hw784_3)).trans hw784_3)⟩ (fun hHeld => ?_); refine with_tabW snap_FromEntry.tab10 snap_FromEntry.bits10 (fun HT_ HW_ => ?_)
           generalize w68.drew = w69 at BK774 BK775 BK781 HB HR782_3 HR783_3 HR784_3 hx782_0 hx782_1 hx782_2 hx782_3 hx783_0 hx783_1 hx783_2 hx783_3 hx784_0 hx784_1 hx784_2 hx784_3 hHeld ⊢
           refine pure_ (i := 0) (N := some 78) (v := ?_) (a' := ?_) (bm 23 1) rfl rfl (any_of HT_.out (by kernel_rfl)) (fun _ _ _ h => h) (Or.inl ⟨by kernel_rfl, ?_⟩) ?_ ?_
           rotate_left
           ·intro w'
            go_simp
            with_reducible rfl
           rotate_left
           ·exact pA
           refine pure_ (i := 5) (N := some 83) (v := ?_) (a' := ?_) (bm 23 33) rfl rfl (any_of HT_.out (by kernel_rfl)) (fun _ _ _ h => h) (Or.inl ⟨by kernel_rfl, ?_⟩) ?_ ?_
           rotate_left
           ·intro w'
            go_simp
            with_reducible rfl
           rotate_left
           ·exact pA
           refine take_ (i := 1) (N := some 79) (v := ?_) (a' := ?_) (bm 23 35) rfl rfl (take_ofW HT_.out HW_.out (by kernel_rfl)) (fun _ _ _ h => h) (Or.inl ⟨by kernel_rfl, ?_⟩) hHeld ?_ ?_
           rotate_left
           ·rintro w' ⟨s0, s1, s2, s3, s4, s5, s6, s7, s8, s9, s10, s11, s12, s13, s14, s15⟩
            go_simp
            with_reducible rfl
           rotate_left
           ·exact pA
           refine pure_ (i := 2) (N := some 80) (v := ?_) (a' := ?_) (bm 23 39) rfl rfl (any_of HT_.out (by kernel_rfl)) (fun _ _ _ h => h) (Or.inl ⟨by kernel_rfl, ?_⟩) ?_ ?_
           rotate_left
           ·intro w'
            go_simp
            with_reducible rfl
           rotate_left
           ·exact pA
           refine pure_ (i := 3) (N := some 81) (v := ?_) (a' := ?_) (bm 23 47) rfl rfl (any_of HT_.out (by kernel_rfl)) (fun _ _ _ h => h) (Or.inl ⟨by kernel_rfl, ?_⟩) ?_ ?_
           rotate_left
           ·intro w'
            go_simp
            with_reducible rfl
           rotate_left
           ·exact pA
           refine take_ (i := 4) (N := some 82) (v := ?_) (a' := ?_) (bm 23 63) rfl rfl (take_ofW HT_.out HW_.out (by kernel_rfl)) (fun _ _ _ h => h) (Or.inl ⟨by kernel_rfl, ?_⟩) hHeld ?_ ?_
           rotate_left
           ·rintro w' ⟨s0, s1, s2, s3, s4, s5, s6, s7, s8, s9, s10, s11, s12, s13, s14, s15⟩
            go_simp
            with_reducible rfl
           rotate_left
           ·exact pA
           refine pure_ (i := 20) (N := some 98) (v := ?_) (a' := ?_) (bm 23 1048639) rfl rfl (any_of HT_.out (by kernel_rfl)) (fun _ _ _ h => h) (Or.inl ⟨by kernel_rfl, ?_⟩) ?_ ?_
           rotate_left
           ·intro w'
            go_simp
            with_reducible rfl
           rotate_left
           ·exact pA
           refine take_ (i := 6) (N := some 84) (v := ?_) (a' := ?_) (bm 23 1048703) rfl rfl (take_ofW HT_.out HW_.out (by kernel_rfl)) (fun _ _ _ h => h) (Or.inl ⟨by kernel_rfl, ?_⟩) hHeld ?_ ?_
           rotate_left
           ·rintro w' ⟨s0, s1, s2, s3, s4, s5, s6, s7, s8, s9, s10, s11, s12, s13, s14, s15⟩
            go_simp
            with_reducible rfl
           rotate_left
           ·exact pA
           refine pure_ (i := 7) (N := some 85) (v := ?_) (a' := ?_) (bm 23 1048831) rfl rfl (any_of HT_.out (by kernel_rfl)) (fun _ _ _ h => h) (Or.inl ⟨by kernel_rfl, ?_⟩) ?_ ?_
           rotate_left
           ·intro w'
            go_simp
            with_reducible rfl
           rotate_left
           ·exact pA
           refine pure_ (i := 8) (N := some 86) (v := ?_) (a' := ?_) (bm 23 1049087) rfl rfl (any_of HT_.out (by kernel_rfl)) (fun _ _ _ h => h) (Or.inl ⟨by kernel_rfl, ?_⟩) ?_ ?_
           rotate_left
           ·intro w'
            go_simp
            with_reducible rfl
           rotate_left
           ·exact pA
           refine take_ (i := 9) (N := some 87) (v := ?_) (a' := ?_) (bm 23 1049599) rfl rfl (take_ofW HT_.out HW_.out (by kernel_rfl)) (fun _ _ _ h => h) (Or.inl ⟨by kernel_rfl, ?_⟩) hHeld ?_ ?_
           rotate_left
           ·rintro w' ⟨s0, s1, s2, s3, s4, s5, s6, s7, s8, s9, s10, s11, s12, s13, s14, s15⟩
            go_simp
            with_reducible rfl
           rotate_left
           ·exact pA
           refine pure_ (i := 10) (N := some 88) (v := ?_) (a' := ?_) (bm 23 1050623) rfl rfl (any_of HT_.out (by kernel_rfl)) (fun _ _ _ h => h) (Or.inl ⟨by kernel_rfl, ?_⟩) ?_ ?_
           rotate_left
           ·intro w'
            go_simp
            with_reducible rfl
           rotate_left
           ·exact pA
           refine pure_ (i := 11) (N := some 89) (v := ?_) (a' := ?_) (bm 23 1052671) rfl rfl (any_of HT_.out (by kernel_rfl)) (fun _ _ _ h => h) (Or.inl ⟨by kernel_rfl, ?_⟩) ?_ ?_
           rotate_left
           ·intro w'
            go_simp
            with_reducible rfl
           rotate_left
           ·exact pA
           refine pure_ (i := 12) (N := some 90) (v := ?_) (a' := ?_) (bm 23 1056767) rfl rfl (any_of HT_.out (by kernel_rfl)) (fun _ _ _ h => h) (Or.inl ⟨by kernel_rfl, ?_⟩) ?_ ?_
           rotate_left
           ·intro w'
            go_simp
            with_reducible rfl
           rotate_left
           ·exact pA
           refine take_ (i := 13) (N := some 91) (v := ?_) (a' := ?_) (bm 23 1064959) rfl rfl (take_ofW HT_.out HW_.out (by kernel_rfl)) (fun _ _ _ h => h) (Or.inl ⟨by kernel_rfl, ?_⟩) hHeld ?_ ?_
           rotate_left
           ·rintro w' ⟨s0, s1, s2, s3, s4, s5, s6, s7, s8, s9, s10, s11, s12, s13, s14, s15⟩
            go_simp
            with_reducible rfl
           rotate_left
           ·exact pA
           refine pure_ (i := 14) (N := some 92) (v := ?_) (a' := ?_) (bm 23 1081343) rfl rfl (any_of HT_.out (by kernel_rfl)) (fun _ _ _ h => h) (Or.inl ⟨by kernel_rfl, ?_⟩) ?_ ?_
           rotate_left
           ·intro w'
            go_simp
            with_reducible rfl
           rotate_left
           ·exact pA
           refine pure_ (i := 15) (N := some 93) (v := ?_) (a' := ?_) (bm 23 1114111) rfl rfl (any_of HT_.out (by kernel_rfl)) (fun _ _ _ h => h) (Or.inl ⟨by kernel_rfl, ?_⟩) ?_ ?_
           rotate_left
           ·intro w'
            go_simp
            with_reducible rfl
           rotate_left
           ·exact pA
           refine take_ (i := 16) (N := some 94) (v := ?_) (a' := ?_) (bm 23 1179647) rfl rfl (take_ofW HT_.out HW_.out (by kernel_rfl)) (fun _ _ _ h => h) (Or.inl ⟨by kernel_rfl, ?_⟩) hHeld ?_ ?_
           rotate_left
           ·rintro w' ⟨s0, s1, s2, s3, s4, s5, s6, s7, s8, s9, s10, s11, s12, s13, s14, s15⟩
            go_simp
            with_reducible rfl
           rotate_left
           ·exact pA
           refine pure_ (i := 17) (N := some 95) (v := ?_) (a' := ?_) (bm 23 1310719) rfl rfl (any_of HT_.out (by kernel_rfl)) (fun _ _ _ h => h) (Or.inl ⟨by kernel_rfl, ?_⟩) ?_ ?_
           rotate_left
           ·intro w'
            go_simp
            with_reducible rfl
           rotate_left
           ·exact pA
           refine pure_ (i := 18) (N := some 96) (v := ?_) (a' := ?_) (bm 23 1572863) rfl rfl (any_of HT_.out (by kernel_rfl)) (fun _ _ _ h => h) (Or.inl ⟨by kernel_rfl, ?_⟩) ?_ ?_
           rotate_left
           ·intro w'
            go_simp
            with_reducible rfl
           rotate_left
           ·exact pA
           refine pure_ (i := 19) (N := some 97) (v := ?_) (a' := ?_) (bm 23 2097151) rfl rfl (any_of HT_.out (by kernel_rfl)) (fun _ _ _ h => h) (Or.inl ⟨by kernel_rfl, ?_⟩) ?_ ?_
           rotate_left
           ·intro w'
            go_simp
            with_reducible rfl
           rotate_left
           ·exact pA
           refine one_ (i := 21) (N := none) (bm 23 4194303) rfl rfl (one_of HT_.out (by kernel_rfl)) (by decide) (fun K hK => ?_)
           have hs70 : w69.cell? ⟨gb781, 2, none⟩ = some (.string (⟨#[]⟩ : ByteArray)) := cz2 BK781.out
           have hfs70 := blk_frozen BK781.out 2
           have hns70_0 := NB774_781.out
           have hns70_1 := NB775_781.out
           have hms70_0 := NB781_774.out
           have hms70_1 := NB781_775.out
           refine skip_ (w1 := ?_) ?hw rfl ?_ ?_; (case hw => kernel_rfl)
           rotate_left
           ·go_simp
            rfl
           refine hK.out _ _ ⟨((cell_far (p := ⟨gb781, _, none⟩) NB774_781.out _).trans (hHeld.1)), ((cell_far (p := ⟨gb781, _, none⟩) NB774_781.out _).trans (hHeld.2.1)), ((cell_far (p := ⟨gb781, _, none⟩) NB774_781.out _).trans (hHeld.2.2.1)), ((cell_far (p := ⟨gb781, _, none⟩) NB774_781.out _).trans (hHeld.2.2.2.1)), ((cell_far (p := ⟨gb781, _, none⟩) (by first | exact Nat.ne_of_lt (Nat.lt_of_lt_of_le (by have := World.block_lt_of_cell? _ _ hw782_0; first | rwa [add_block] at this | exact this) GW781.out) | (rw [add_block]; exact Nat.ne_of_lt (Nat.lt_of_lt_of_le (by have := World.block_lt_of_cell? _ _ hw782_0; first | rwa [add_block] at this | exact this) GW781.out)) | (show (Addr.add _ _).block ≠ _; rw [add_block]; exact Nat.ne_of_lt (Nat.lt_of_lt_of_le (by have := World.block_lt_of_cell? _ _ hw782_0; first | rwa [add_block] at this | exact this) GW781.out)) | (dsimp only; exact Nat.ne_of_lt (Nat.lt_of_lt_of_le (by have := World.block_lt_of_cell? _ _ hw782_0; first | rwa [add_block] at this | exact this) GW781.out))) _).trans (hHeld.2.2.2.2.1)), ((cell_far (p := ⟨gb781, _, none⟩) (by first | exact Nat.ne_of_lt (Nat.lt_of_lt_of_le (by have := World.block_lt_of_cell? _ _ hw782_1; first | rwa [add_block] at this | exact this) GW781.out) | (rw [add_block]; exact Nat.ne_of_lt (Nat.lt_of_lt_of_le (by have := World.block_lt_of_cell? _ _ hw782_1; first | rwa [add_block] at this | exact this) GW781.out)) | (show (Addr.add _ _).block ≠ _; rw [add_block]; exact Nat.ne_of_lt (Nat.lt_of_lt_of_le (by have := World.block_lt_of_cell? _ _ hw782_1; first | rwa [add_block] at this | exact this) GW781.out)) | (dsimp only; exact Nat.ne_of_lt (Nat.lt_of_lt_of_le (by have := World.block_lt_of_cell? _ _ hw782_1; first | rwa [add_block] at this | exact this) GW781.out))) _).trans (hHeld.2.2.2.2.2.1)), ((cell_far (p := ⟨gb781, _, none⟩) (by first | exact Nat.ne_of_lt (Nat.lt_of_lt_of_le (by have := World.block_lt_of_cell? _ _ hw782_2; first | rwa [add_block] at this | exact this) GW781.out) | (rw [add_block]; exact Nat.ne_of_lt (Nat.lt_of_lt_of_le (by have := World.block_lt_of_cell? _ _ hw782_2; first | rwa [add_block] at this | exact this) GW781.out)) | (show (Addr.add _ _).block ≠ _; rw [add_block]; exact Nat.ne_of_lt (Nat.lt_of_lt_of_le (by have := World.block_lt_of_cell? _ _ hw782_2; first | rwa [add_block] at this | exact this) GW781.out)) | (dsimp only; exact Nat.ne_of_lt (Nat.lt_of_lt_of_le (by have := World.block_lt_of_cell? _ _ hw782_2; first | rwa [add_block] at this | exact this) GW781.out))) _).trans (hHeld.2.2.2.2.2.2.1)), ((cell_far (p := ⟨gb781, _, none⟩) (by first | exact Nat.ne_of_lt (Nat.lt_of_lt_of_le (by have := World.block_lt_of_cell? _ _ hw782_3; first | rwa [add_block] at this | exact this) GW781.out) | (rw [add_block]; exact Nat.ne_of_lt (Nat.lt_of_lt_of_le (by have := World.block_lt_of_cell? _ _ hw782_3; first | rwa [add_block] at this | exact this) GW781.out)) | (show (Addr.add _ _).block ≠ _; rw [add_block]; exact Nat.ne_of_lt (Nat.lt_of_lt_of_le (by have := World.block_lt_of_cell? _ _ hw782_3; first | rwa [add_block] at this | exact this) GW781.out)) | (dsimp only; exact Nat.ne_of_lt (Nat.lt_of_lt_of_le (by have := World.block_lt_of_cell? _ _ hw782_3; first | rwa [add_block] at this | exact this) GW781.out))) _).trans (hHeld.2.2.2.2.2.2.2.1)), ((cell_far (p := ⟨gb781, _, none⟩) (by first | exact Nat.ne_of_lt (Nat.lt_of_lt_of_le (by have := World.block_lt_of_cell? _ _ hw783_0; first | rwa [add_block] at this | exact this) GW781.out) | (rw [add_block]; exact Nat.ne_of_lt (Nat.lt_of_lt_of_le (by have := World.block_lt_of_cell? _ _ hw783_0; first | rwa [add_block] at this | exact this) GW781.out)) | (show (Addr.add _ _).block ≠ _; rw [add_block]; exact Nat.ne_of_lt (Nat.lt_of_lt_of_le (by have := World.block_lt_of_cell? _ _ hw783_0; first | rwa [add_block] at this | exact this) GW781.out)) | (dsimp only; exact Nat.ne_of_lt (Nat.lt_of_lt_of_le (by have := World.block_lt_of_cell? _ _ hw783_0; first | rwa [add_block] at this | exact this) GW781.out))) _).trans (hHeld.2.2.2.2.2.2.2.2.1)), ((cell_far (p := ⟨gb781, _, none⟩) (by first | exact Nat.ne_of_lt (Nat.lt_of_lt_of_le (by have := World.block_lt_of_cell? _ _ hw783_1; first | rwa [add_block] at this | exact this) GW781.out) | (rw [add_block]; exact Nat.ne_of_lt (Nat.lt_of_lt_of_le (by have := World.block_lt_of_cell? _ _ hw783_1; first | rwa [add_block] at this | exact this) GW781.out)) | (show (Addr.add _ _).block ≠ _; rw [add_block]; exact Nat.ne_of_lt (Nat.lt_of_lt_of_le (by have := World.block_lt_of_cell? _ _ hw783_1; first | rwa [add_block] at this | exact this) GW781.out)) | (dsimp only; exact Nat.ne_of_lt (Nat.lt_of_lt_of_le (by have := World.block_lt_of_cell? _ _ hw783_1; first | rwa [add_block] at this | exact this) GW781.out))) _).trans (hHeld.2.2.2.2.2.2.2.2.2.1)), ((cell_far (p := ⟨gb781, _, none⟩) (by first | exact Nat.ne_of_lt (Nat.lt_of_lt_of_le (by have := World.block_lt_of_cell? _ _ hw783_2; first | rwa [add_block] at this | exact this) GW781.out) | (rw [add_block]; exact Nat.ne_of_lt (Nat.lt_of_lt_of_le (by have := World.block_lt_of_cell? _ _ hw783_2; first | rwa [add_block] at this | exact this) GW781.out)) | (show (Addr.add _ _).block ≠ _; rw [add_block]; exact Nat.ne_of_lt (Nat.lt_of_lt_of_le (by have := World.block_lt_of_cell? _ _ hw783_2; first | rwa [add_block] at this | exact this) GW781.out)) | (dsimp only; exact Nat.ne_of_lt (Nat.lt_of_lt_of_le (by have := World.block_lt_of_cell? _ _ hw783_2; first | rwa [add_block] at this | exact this) GW781.out))) _).trans (hHeld.2.2.2.2.2.2.2.2.2.2.1)), ((cell_far (p := ⟨gb781, _, none⟩) (by first | exact Nat.ne_of_lt (Nat.lt_of_lt_of_le (by have := World.block_lt_of_cell? _ _ hw783_3; first | rwa [add_block] at this | exact this) GW781.out) | (rw [add_block]; exact Nat.ne_of_lt (Nat.lt_of_lt_of_le (by have := World.block_lt_of_cell? _ _ hw783_3; first | rwa [add_block] at this | exact this) GW781.out)) | (show (Addr.add _ _).block ≠ _; rw [add_block]; exact Nat.ne_of_lt (Nat.lt_of_lt_of_le (by have := World.block_lt_of_cell? _ _ hw783_3; first | rwa [add_block] at this | exact this) GW781.out)) | (dsimp only; exact Nat.ne_of_lt (Nat.lt_of_lt_of_le (by have := World.block_lt_of_cell? _ _ hw783_3; first | rwa [add_block] at this | exact this) GW781.out))) _).trans (hHeld.2.2.2.2.2.2.2.2.2.2.2.1)), ((cell_far (p := ⟨gb781, _, none⟩) (by first | exact Nat.ne_of_lt (Nat.lt_of_lt_of_le (by have := World.block_lt_of_cell? _ _ hw784_0; first | rwa [add_block] at this | exact this) GW781.out) | (rw [add_block]; exact Nat.ne_of_lt (Nat.lt_of_lt_of_le (by have := World.block_lt_of_cell? _ _ hw784_0; first | rwa [add_block] at this | exact this) GW781.out)) | (show (Addr.add _ _).block ≠ _; rw [add_block]; exact Nat.ne_of_lt (Nat.lt_of_lt_of_le (by have := World.block_lt_of_cell? _ _ hw784_0; first | rwa [add_block] at this | exact this) GW781.out)) | (dsimp only; exact Nat.ne_of_lt (Nat.lt_of_lt_of_le (by have := World.block_lt_of_cell? _ _ hw784_0; first | rwa [add_block] at this | exact this) GW781.out))) _).trans (hHeld.2.2.2.2.2.2.2.2.2.2.2.2.1)), ((cell_far (p := ⟨gb781, _, none⟩) (by first | exact Nat.ne_of_lt (Nat.lt_of_lt_of_le (by have := World.block_lt_of_cell? _ _ hw784_1; first | rwa [add_block] at this | exact this) GW781.out) | (rw [add_block]; exact Nat.ne_of_lt (Nat.lt_of_lt_of_le (by have := World.block_lt_of_cell? _ _ hw784_1; first | rwa [add_block] at this | exact this) GW781.out)) | (show (Addr.add _ _).block ≠ _; rw [add_block]; exact Nat.ne_of_lt (Nat.lt_of_lt_of_le (by have := World.block_lt_of_cell? _ _ hw784_1; first | rwa [add_block] at this | exact this) GW781.out)) | (dsimp only; exact Nat.ne_of_lt (Nat.lt_of_lt_of_le (by have := World.block_lt_of_cell? _ _ hw784_1; first | rwa [add_block] at this | exact this) GW781.out))) _).trans (hHeld.2.2.2.2.2.2.2.2.2.2.2.2.2.1)), ((cell_far (p := ⟨gb781, _, none⟩) (by first | exact Nat.ne_of_lt (Nat.lt_of_lt_of_le (by have := World.block_lt_of_cell? _ _ hw784_2; first | rwa [add_block] at this | exact this) GW781.out) | (rw [add_block]; exact Nat.ne_of_lt (Nat.lt_of_lt_of_le (by have := World.block_lt_of_cell? _ _ hw784_2; first | rwa [add_block] at this | exact this) GW781.out)) | (show (Addr.add _ _).block ≠ _; rw [add_block]; exact Nat.ne_of_lt (Nat.lt_of_lt_of_le (by have := World.block_lt_of_cell? _ _ hw784_2; first | rwa [add_block] at this | exact this) GW781.out)) | (dsimp only; exact Nat.ne_of_lt (Nat.lt_of_lt_of_le (by have := World.block_lt_of_cell? _ _ hw784_2; first | rwa [add_block] at this | exact this) GW781.out))) _).trans (hHeld.2.2.2.2.2.2.2.2.2.2.2.2.2.2.1)), ((cell_far (p := ⟨gb781, _, none⟩) (by first | exact Nat.ne_of_lt (Nat.lt_of_lt_of_le (by have := World.block_lt_of_cell? _ _ hw784_3; first | rwa [add_block] at this | exact this) GW781.out) | (rw [add_block]; exact Nat.ne_of_lt (Nat.lt_of_lt_of_le (by have := World.block_lt_of_cell? _ _ hw784_3; first | rwa [add_block] at this | exact this) GW781.out)) | (show (Addr.add _ _).block ≠ _; rw [add_block]; exact Nat.ne_of_lt (Nat.lt_of_lt_of_le (by have := World.block_lt_of_cell? _ _ hw784_3; first | rwa [add_block] at this | exact this) GW781.out)) | (dsimp only; exact Nat.ne_of_lt (Nat.lt_of_lt_of_le (by have := World.block_lt_of_cell? _ _ hw784_3; first | rwa [add_block] at this | exact this) GW781.out))) _).trans (hHeld.2.2.2.2.2.2.2.2.2.2.2.2.2.2.2))⟩ (fun hHeld => ?_)
           clear hK K
           refine pure_ (i := 22) (N := some 5) (v := ?_) (a' := ?_) (bm 23 8388607) rfl rfl (any_of HT_.out (by kernel_rfl)) (fun _ _ _ h => h) (Or.inl ⟨by kernel_rfl, ?_⟩) ?_ ?_
           rotate_left
           ·intro w'
            go_simp
            with_reducible rfl
           rotate_left
           ·exact pA
           refine done_ (done_of HT_.out (by kernel_rfl)) ?_
           have H := HH_.out
           clear HH_
           by_cases c56 : ((((rd_T26 l0_3 2).f2).size : Int) ≤ 65536)
           ·rw [if_pos c56] at H
            have c56b0 : decide ((((rd_T26 l0_3 2).f2).size : Int) ≤ 65536) = true := decide_eq_true c56
            have c56b1 : decide (((rd_T26 l0_3 2).f2).size ≤ 65536) = true := decide_eq_true (by omega)
            clear c56
            simp only [Option.some.injEq, Prod.mk.injEq] at H
            obtain ⟨rfl, rfl, rfl, rfl, rfl⟩ := H
            have q71 := cf4 BK781.out
            have q72 := cf4 BK775.out
            try go_wp2
            refine bodyPost_ret (results_ct rfl _ _ gb775 46 #[.int .u64 ((rd_T26 l0_3 0).f1), .int .i64 (wrap64 ((rd_T26 l0_3 1).f1)), .string ((rd_T26 l0_3 2).f2), .slice none 0 0] (0, 0) _ rfl (by (with_reducible repeat (first | refine blk_drewN ?_ _ | refine blk_drew ?_ | refine blk_alloc ?_ _)); refine blk_put (cs := #[.int .u64 ((rd_T26 l0_3 0).f1), .int .i64 (wrap64 ((rd_T26 l0_3 1).f1)), .string ((rd_T26 l0_3 2).f2), .slice none 0 0]) ?_ 3 _ rfl; (with_reducible repeat (first | refine blk_drewN ?_ _ | refine blk_drew ?_ | refine blk_alloc ?_ _)); refine blk_put (cs := #[.int .u64 ((rd_T26 l0_3 0).f1), .int .i64 (wrap64 ((rd_T26 l0_3 1).f1)), .string (⟨#[]⟩ : ByteArray), .slice none 0 0]) ?_ 2 _ rfl; (with_reducible repeat (first | refine blk_drewN ?_ _ | refine blk_drew ?_ | refine blk_alloc ?_ _)); refine blk_put (cs := #[.int .u64 ((rd_T26 l0_3 0).f1), .int .i64 0, .string (⟨#[]⟩ : ByteArray), .slice none 0 0]) ?_ 1 _ rfl; (with_reducible repeat (first | refine blk_drewN ?_ _ | refine blk_drew ?_ | refine blk_alloc ?_ _)); refine blk_put (cs := #[.int .u64 0, .int .i64 0, .string (⟨#[]⟩ : ByteArray), .slice none 0 0]) ?_ 0 _ rfl; (with_reducible repeat (first | refine blk_drewN ?_ _ | refine blk_drew ?_ | refine blk_alloc ?_ _)); refine blk_far ?_ NB775_781.out _; (with_reducible repeat (first | refine blk_drewN ?_ _ | refine blk_drew ?_ | refine blk_alloc ?_ _)); exact BK775.out) Tryd.underlying46 rfl (by kernel_rfl)) rfl ?_
            exact ⟨_, pE, pZ, pB⟩
           ·rw [if_neg c56] at H
            have c56b0 : decide ((((rd_T26 l0_3 2).f2).size : Int) ≤ 65536) = false := decide_eq_false c56
            have c56b1 : decide (((rd_T26 l0_3 2).f2).size ≤ 65536) = false := decide_eq_false (by omega)
            clear c56
            simp only [Option.some.injEq, Prod.mk.injEq] at H
            obtain ⟨rfl, rfl, rfl, rfl, rfl⟩ := H
            have q87 := cf4 BK775.out
            try go_wp2
            refine bodyPost_ret (results_ct rfl _ _ gb775 46 #[.int .u64 0, .int .i64 0, .string (⟨#[]⟩ : ByteArray), .slice none 0 0] (0, 0) _ rfl (by (iterate 4 ((with_reducible repeat (first | refine blk_drewN ?_ _ | refine blk_drew ?_ | refine blk_alloc ?_ _)); refine blk_put (cs := #[.int .u64 0, .int .i64 0, .string (⟨#[]⟩ : ByteArray), .slice none 0 0]) ?_ _ _ rfl)); (with_reducible repeat (first | refine blk_drewN ?_ _ | refine blk_drew ?_ | refine blk_alloc ?_ _)); refine blk_far ?_ NB775_781.out _; (with_reducible repeat (first | refine blk_drewN ?_ _ | refine blk_drew ?_ | refine blk_alloc ?_ _)); exact BK775.out) Tryd.underlying46 rfl (by kernel_rfl)) rfl ?_
            exact ⟨_, pE, pZ, pB⟩
          ·rw [if_neg c55] at H
           have c55b0 : (((rd_T26 l0_3 2).f0) == 1) = false := beq_eq_false_iff_ne.mpr c55
           have c55b1 : (((rd_T26 l0_3 2).f0) != 1) = true := bne_iff_ne.mpr c55
           simp only [Option.some.injEq, Prod.mk.injEq] at H
           obtain ⟨rfl, rfl, rfl, rfl, rfl⟩ := H
           have hnb94 := NB781_774.out
           have hnc94 := NB774_781.out
           have hnb95 := NB781_775.out
           have hnc95 := NB775_781.out
           have q96 := cf4 BK781.out
           have hnb97 := NB774_775.out
           have hnc97 := NB775_774.out
           have q98 := cf4 BK774.out
           try go_wp2
           have n0_ : Aside0 (((((w29.setCell ⟨gb781, 0, none⟩ (.int .u64 ((rd_T26 l0_3 0).f1))).setCell ⟨gb781, 1, none⟩ (.int .i64 (wrap64 ((rd_T26 l0_3 1).f1)))).setCell ⟨gb781, 2, none⟩ (.string (⟨#[]⟩ : ByteArray))).setCell ⟨gb781, 3, none⟩ (.slice none 0 0)).heap[gb774]? = some (.cells #[.int .i64 a0_0, .int .u64 a0_1, .string a0_2, .slice (some ad779) l0_3.length c0_3] 26 (0, 0))) := ⟨by (with_reducible repeat (first | refine blk_drewN ?_ _ | refine blk_drew ?_ | refine blk_alloc ?_ _)); refine blk_far ?_ NB774_781.out _; (with_reducible repeat (first | refine blk_drewN ?_ _ | refine blk_drew ?_ | refine blk_alloc ?_ _)); refine blk_far ?_ NB774_781.out _; (with_reducible repeat (first | refine blk_drewN ?_ _ | refine blk_drew ?_ | refine blk_alloc ?_ _)); refine blk_far ?_ NB774_781.out _; (with_reducible repeat (first | refine blk_drewN ?_ _ | refine blk_drew ?_ | refine blk_alloc ?_ _)); refine blk_far ?_ NB774_781.out _; (with_reducible repeat (first | refine blk_drewN ?_ _ | refine blk_drew ?_ | refine blk_alloc ?_ _)); exact BK774.out⟩
           have n1_ : Aside0 (((((w29.setCell ⟨gb781, 0, none⟩ (.int .u64 ((rd_T26 l0_3 0).f1))).setCell ⟨gb781, 1, none⟩ (.int .i64 (wrap64 ((rd_T26 l0_3 1).f1)))).setCell ⟨gb781, 2, none⟩ (.string (⟨#[]⟩ : ByteArray))).setCell ⟨gb781, 3, none⟩ (.slice none 0 0)).heap[gb775]? = some (.cells #[.int .u64 0, .int .i64 0, .string (⟨#[]⟩ : ByteArray), .slice none 0 0] 46 (0, 0))) := ⟨by (with_reducible repeat (first | refine blk_drewN ?_ _ | refine blk_drew ?_ | refine blk_alloc ?_ _)); refine blk_far ?_ NB775_781.out _; (with_reducible repeat (first | refine blk_drewN ?_ _ | refine blk_drew ?_ | refine blk_alloc ?_ _)); refine blk_far ?_ NB775_781.out _; (with_reducible repeat (first | refine blk_drewN ?_ _ | refine blk_drew ?_ | refine blk_alloc ?_ _)); refine blk_far ?_ NB775_781.out _; (with_reducible repeat (first | refine blk_drewN ?_ _ | refine blk_drew ?_ | refine blk_alloc ?_ _)); refine blk_far ?_ NB775_781.out _; (with_reducible repeat (first | refine blk_drewN ?_ _ | refine blk_drew ?_ | refine blk_alloc ?_ _)); exact BK775.out⟩
           have n2_ : Aside0 (((((w29.setCell ⟨gb781, 0, none⟩ (.int .u64 ((rd_T26 l0_3 0).f1))).setCell ⟨gb781, 1, none⟩ (.int .i64 (wrap64 ((rd_T26 l0_3 1).f1)))).setCell ⟨gb781, 2, none⟩ (.string (⟨#[]⟩ : ByteArray))).setCell ⟨gb781, 3, none⟩ (.slice none 0 0)).heap[gb781]? = some (.cells #[.int .u64 ((rd_T26 l0_3 0).f1), .int .i64 (wrap64 ((rd_T26 l0_3 1).f1)), .string (⟨#[]⟩ : ByteArray), .slice none 0 0] 46 (0, 0))) := ⟨by (iterate 2 ((with_reducible repeat (first | refine blk_drewN ?_ _ | refine blk_drew ?_ | refine blk_alloc ?_ _)); refine blk_put (cs := #[.int .u64 ((rd_T26 l0_3 0).f1), .int .i64 (wrap64 ((rd_T26 l0_3 1).f1)), .string (⟨#[]⟩ : ByteArray), .slice none 0 0]) ?_ _ _ rfl)); (with_reducible repeat (first | refine blk_drewN ?_ _ | refine blk_drew ?_ | refine blk_alloc ?_ _)); refine blk_put (cs := #[.int .u64 ((rd_T26 l0_3 0).f1), .int .i64 0, .string (⟨#[]⟩ : ByteArray), .slice none 0 0]) ?_ 1 _ rfl; (with_reducible repeat (first | refine blk_drewN ?_ _ | refine blk_drew ?_ | refine blk_alloc ?_ _)); refine blk_put (cs := #[.int .u64 0, .int .i64 0, .string (⟨#[]⟩ : ByteArray), .slice none 0 0]) ?_ 0 _ rfl; (with_reducible repeat (first | refine blk_drewN ?_ _ | refine blk_drew ?_ | refine blk_alloc ?_ _)); exact BK781.out⟩
           have n3_ : Aside0 (Below w.heap.size w ((((w29.setCell ⟨gb781, 0, none⟩ (.int .u64 ((rd_T26 l0_3 0).f1))).setCell ⟨gb781, 1, none⟩ (.int .i64 (wrap64 ((rd_T26 l0_3 1).f1)))).setCell ⟨gb781, 2, none⟩ (.string (⟨#[]⟩ : ByteArray))).setCell ⟨gb781, 3, none⟩ (.slice none 0 0))) := ⟨pB⟩
           (try clear BK774); (try clear BK775); (try clear BK781); (try clear HB)
           generalize ((((w29.setCell ⟨gb781, 0, none⟩ (.int .u64 ((rd_T26 l0_3 0).f1))).setCell ⟨gb781, 1, none⟩ (.int .i64 (wrap64 ((rd_T26 l0_3 1).f1)))).setCell ⟨gb781, 2, none⟩ (.string (⟨#[]⟩ : ByteArray))).setCell ⟨gb781, 3, none⟩ (.slice none 0 0)) = w99 at n0_ n1_ n2_ n3_ ⊢
           have BK774 := n0_; have BK775 := n1_; have BK781 := n2_; have HB := n3_; clear n0_ n1_ n2_ n3_
           replace BK774 := am (blk_drew BK774.out)
           replace BK775 := am (blk_drew BK775.out)
           replace BK781 := am (blk_drew BK781.out)
           replace HB := am (below_drew1 HB.out)
           have p782 : 0 ≤ (2 : Int) := (by omega)
           have q782 : 2 < (l0_3.length : Int) := pD
           obtain ⟨ad782, A782_3, c782_3, e782, hx782_0, hx782_1, hx782_2, hx782_3, hl782_3, hi782_3⟩ := at_T26 HR0_3.out 2 p782 q782
           have hw782_3 := hx782_3
           (try rw [show ((2 : Int)).toNat = 2 from rfl] at hw782_3)
           (try rw [show 2 * 4 = 8 from rfl] at hw782_3)
           (try simp only [Nat.reduceMul, Nat.reduceEqDiff, Go.Addr.add, ↓reduceIte] at hw782_3)
           have hw782_2 := hx782_2
           (try rw [show ((2 : Int)).toNat = 2 from rfl] at hw782_2)
           (try rw [show 2 * 4 = 8 from rfl] at hw782_2)
           (try simp only [Nat.reduceMul, Nat.reduceEqDiff, Go.Addr.add, ↓reduceIte] at hw782_2)
           have hw782_1 := hx782_1
           (try rw [show ((2 : Int)).toNat = 2 from rfl] at hw782_1)
           (try rw [show 2 * 4 = 8 from rfl] at hw782_1)
           (try simp only [Nat.reduceMul, Nat.reduceEqDiff, Go.Addr.add, ↓reduceIte] at hw782_1)
           have hw782_0 := hx782_0
           (try rw [show ((2 : Int)).toNat = 2 from rfl] at hw782_0)
           (try rw [show 2 * 4 = 8 from rfl] at hw782_0)
           (try simp only [Nat.reduceMul, Nat.reduceEqDiff, Go.Addr.add, ↓reduceIte] at hw782_0)
           obtain rfl : ad779 = ad782 := (by injection e782)
           (try simp only [show (2 : Int).toNat = 2 from rfl, Nat.reduceMul, Nat.reduceEqDiff, Go.Addr.add, ↓reduceIte] at hx782_0)
           (try simp only [show (2 : Int).toNat = 2 from rfl, Nat.reduceMul, Nat.reduceEqDiff, Go.Addr.add, ↓reduceIte] at hx782_1)
           (try simp only [show (2 : Int).toNat = 2 from rfl, Nat.reduceMul, Nat.reduceEqDiff, Go.Addr.add, ↓reduceIte] at hx782_2)
           (try simp only [show (2 : Int).toNat = 2 from rfl, Nat.reduceMul, Nat.reduceEqDiff, Go.Addr.add, ↓reduceIte] at hx782_3)
           have qi782 : (2 < l0_3.length) = True := eq_true (by omega)
           (try rw [show ((2 : Int)).toNat = 2 from rfl] at hx782_0)
           (try rw [show 2 * 4 = 8 from rfl] at hx782_0)
           (try rw [show ((2 : Int)).toNat = 2 from rfl] at hx782_1)
           (try rw [show 2 * 4 = 8 from rfl] at hx782_1)
           (try rw [show ((2 : Int)).toNat = 2 from rfl] at hx782_2)
           (try rw [show 2 * 4 = 8 from rfl] at hx782_2)
           (try rw [show ((2 : Int)).toNat = 2 from rfl] at hx782_3)
           (try rw [show 2 * 4 = 8 from rfl] at hx782_3)
           replace hx782_0 := (HB.out.cell (World.block_lt_of_cell? w _ hx782_0)).trans hx782_0
           replace hx782_1 := (HB.out.cell (World.block_lt_of_cell? w _ hx782_1)).trans hx782_1
           replace hx782_2 := (HB.out.cell (World.block_lt_of_cell? w _ hx782_2)).trans hx782_2
           replace hx782_3 := (HB.out.cell (World.block_lt_of_cell? w _ hx782_3)).trans hx782_3
           have HR782_3 := am hi782_3
           have HC782_3 := am hl782_3
           clear hi782_3 hl782_3
           replace p782 := eq_true p782
           replace q782 := eq_true q782
           have p783 : 0 ≤ (2 : Int) := (by omega)
           have q783 : 2 < (l0_3.length : Int) := pD
           obtain ⟨ad783, A783_3, c783_3, e783, hx783_0, hx783_1, hx783_2, hx783_3, hl783_3, hi783_3⟩ := at_T26 HR0_3.out 2 p783 q783
           have hw783_3 := hx783_3
           (try rw [show ((2 : Int)).toNat = 2 from rfl] at hw783_3)
           (try rw [show 2 * 4 = 8 from rfl] at hw783_3)
           (try simp only [Nat.reduceMul, Nat.reduceEqDiff, Go.Addr.add, ↓reduceIte] at hw783_3)
           have hw783_2 := hx783_2
           (try rw [show ((2 : Int)).toNat = 2 from rfl] at hw783_2)
           (try rw [show 2 * 4 = 8 from rfl] at hw783_2)
           (try simp only [Nat.reduceMul, Nat.reduceEqDiff, Go.Addr.add, ↓reduceIte] at hw783_2)
           have hw783_1 := hx783_1
           (try rw [show ((2 : Int)).toNat = 2 from rfl] at hw783_1)
           (try rw [show 2 * 4 = 8 from rfl] at hw783_1)
           (try simp only [Nat.reduceMul, Nat.reduceEqDiff, Go.Addr.add, ↓reduceIte] at hw783_1)
           have hw783_0 := hx783_0
           (try rw [show ((2 : Int)).toNat = 2 from rfl] at hw783_0)
           (try rw [show 2 * 4 = 8 from rfl] at hw783_0)
           (try simp only [Nat.reduceMul, Nat.reduceEqDiff, Go.Addr.add, ↓reduceIte] at hw783_0)
           obtain rfl : ad779 = ad783 := (by injection e783)
           (try simp only [show (2 : Int).toNat = 2 from rfl, Nat.reduceMul, Nat.reduceEqDiff, Go.Addr.add, ↓reduceIte] at hx783_0)
           (try simp only [show (2 : Int).toNat = 2 from rfl, Nat.reduceMul, Nat.reduceEqDiff, Go.Addr.add, ↓reduceIte] at hx783_1)
           (try simp only [show (2 : Int).toNat = 2 from rfl, Nat.reduceMul, Nat.reduceEqDiff, Go.Addr.add, ↓reduceIte] at hx783_2)
           (try simp only [show (2 : Int).toNat = 2 from rfl, Nat.reduceMul, Nat.reduceEqDiff, Go.Addr.add, ↓reduceIte] at hx783_3)
           have qi783 : (2 < l0_3.length) = True := eq_true (by omega)
           (try rw [show ((2 : Int)).toNat = 2 from rfl] at hx783_0)
           (try rw [show 2 * 4 = 8 from rfl] at hx783_0)
           (try rw [show ((2 : Int)).toNat = 2 from rfl] at hx783_1)
           (try rw [show 2 * 4 = 8 from rfl] at hx783_1)
           (try rw [show ((2 : Int)).toNat = 2 from rfl] at hx783_2)
           (try rw [show 2 * 4 = 8 from rfl] at hx783_2)
           (try rw [show ((2 : Int)).toNat = 2 from rfl] at hx783_3)
           (try rw [show 2 * 4 = 8 from rfl] at hx783_3)
           replace hx783_0 := (HB.out.cell (World.block_lt_of_cell? w _ hx783_0)).trans hx783_0
           replace hx783_1 := (HB.out.cell (World.block_lt_of_cell? w _ hx783_1)).trans hx783_1
           replace hx783_2 := (HB.out.cell (World.block_lt_of_cell? w _ hx783_2)).trans hx783_2
           replace hx783_3 := (HB.out.cell (World.block_lt_of_cell? w _ hx783_3)).trans hx783_3
           have HR783_3 := am hi783_3
           have HC783_3 := am hl783_3
           clear hi783_3 hl783_3
           replace p783 := eq_true p783
           replace q783 := eq_true q783
           have ea_ := Option.some.inj (hx782_3.symm.trans hx783_3)
           injection ea_ with ea_ en_ ec_
           subst ea_
           subst ec_
           clear en_
           refine start_ (n := 23) (S := fun w' => w'.cell? ⟨gb774, 0, none⟩ = some (.int .i64 a0_0) ∧ w'.cell? ⟨gb774, 1, none⟩ = some (.int .u64 a0_1) ∧ w'.cell? ⟨gb774, 2, none⟩ = some (.string a0_2) ∧ w'.cell? ⟨gb774, 3, none⟩ = some (.slice (some ad779) l0_3.length c0_3) ∧ w'.cell? ⟨ad779.block, ad779.off + 8, none⟩ = some (.int .i64 ((rd_T26 l0_3 2).f0)) ∧ w'.cell? ⟨ad779.block, ad779.off + 8 + 1, none⟩ = some (.int .u64 ((rd_T26 l0_3 2).f1)) ∧ w'.cell? ⟨ad779.block, ad779.off + 8 + 2, none⟩ = some (.string ((rd_T26 l0_3 2).f2)) ∧ w'.cell? ⟨ad779.block, ad779.off + 8 + 3, none⟩ = some (.slice A782_3 ((rd_T26 l0_3 2).f3).length c782_3) ∧ w'.cell? ⟨ad779.block, ad779.off + 8, none⟩ = some (.int .i64 ((rd_T26 l0_3 2).f0)) ∧ w'.cell? ⟨ad779.block, ad779.off + 8 + 1, none⟩ = some (.int .u64 ((rd_T26 l0_3 2).f1)) ∧ w'.cell? ⟨ad779.block, ad779.off + 8 + 2, none⟩ = some (.string ((rd_T26 l0_3 2).f2)) ∧ w'.cell? ⟨ad779.block, ad779.off + 8 + 3, none⟩ = some (.slice A782_3 ((rd_T26 l0_3 2).f3).length c782_3)) (ds := []) (bm 23 0) (by kernel_rfl) rfl rfl ⟨cz0 BK774.out, cz1 BK774.out, cz2 BK774.out, cz3 BK774.out, ((HB.out.cell (World.block_lt_of_cell? w _ hw782_0)).trans hw782_0), ((HB.out.cell (World.block_lt_of_cell? w _ hw782_1)).trans hw782_1), ((HB.out.cell (World.block_lt_of_cell? w _ hw782_2)).trans hw782_2), ((HB.out.cell (World.block_lt_of_cell? w _ hw782_3)).trans hw782_3), ((HB.out.cell (World.block_lt_of_cell? w _ hw783_0)).trans hw783_0), ((HB.out.cell (World.block_lt_of_cell? w _ hw783_1)).trans hw783_1), ((HB.out.cell (World.block_lt_of_cell? w _ hw783_2)).trans hw783_2), ((HB.out.cell (World.block_lt_of_cell? w _ hw783_3)).trans hw783_3)⟩ (fun hHeld => ?_); refine with_tabW snap_FromEntry.tab10 snap_FromEntry.bits10 (fun HT_ HW_ => ?_)
           generalize w99.drew = w100 at BK774 BK775 BK781 HB HR782_3 HR783_3 hx782_0 hx782_1 hx782_2 hx782_3 hx783_0 hx783_1 hx783_2 hx783_3 hHeld ⊢
           refine pure_ (i := 0) (N := some 78) (v := ?_) (a' := ?_) (bm 23 1) rfl rfl (any_of HT_.out (by kernel_rfl)) (fun _ _ _ h => h) (Or.inl ⟨by kernel_rfl, ?_⟩) ?_ ?_
           rotate_left
           ·intro w'
            go_simp
            with_reducible rfl
           rotate_left
           ·exact pA
           refine pure_ (i := 5) (N := some 83) (v := ?_) (a' := ?_) (bm 23 33) rfl rfl (any_of HT_.out (by kernel_rfl)) (fun _ _ _ h => h) (Or.inl ⟨by kernel_rfl, ?_⟩) ?_ ?_
           rotate_left
           ·intro w'
            go_simp
            with_reducible rfl
           rotate_left
           ·exact pA
           refine take_ (i := 1) (N := some 79) (v := ?_) (a' := ?_) (bm 23 35) rfl rfl (take_ofW HT_.out HW_.out (by kernel_rfl)) (fun _ _ _ h => h) (Or.inl ⟨by kernel_rfl, ?_⟩) hHeld ?_ ?_
           rotate_left
           ·rintro w' ⟨s0, s1, s2, s3, s4, s5, s6, s7, s8, s9, s10, s11⟩
            go_simp
            with_reducible rfl
           rotate_left
           ·exact pA
           refine pure_ (i := 2) (N := some 80) (v := ?_) (a' := ?_) (bm 23 39) rfl rfl (any_of HT_.out (by kernel_rfl)) (fun _ _ _ h => h) (Or.inl ⟨by kernel_rfl, ?_⟩) ?_ ?_
           rotate_left
           ·intro w'
            go_simp
            with_reducible rfl
           rotate_left
           ·exact pA
           refine pure_ (i := 3) (N := some 81) (v := ?_) (a' := ?_) (bm 23 47) rfl rfl (any_of HT_.out (by kernel_rfl)) (fun _ _ _ h => h) (Or.inl ⟨by kernel_rfl, ?_⟩) ?_ ?_
           rotate_left
           ·intro w'
            go_simp
            with_reducible rfl
           rotate_left
           ·exact pA
           refine take_ (i := 4) (N := some 82) (v := ?_) (a' := ?_) (bm 23 63) rfl rfl (take_ofW HT_.out HW_.out (by kernel_rfl)) (fun _ _ _ h => h) (Or.inl ⟨by kernel_rfl, ?_⟩) hHeld ?_ ?_
           rotate_left
           ·rintro w' ⟨s0, s1, s2, s3, s4, s5, s6, s7, s8, s9, s10, s11⟩
            go_simp
            with_reducible rfl
           rotate_left
           ·exact pA
           refine pure_ (i := 20) (N := some 98) (v := ?_) (a' := ?_) (bm 23 1048639) rfl rfl (any_of HT_.out (by kernel_rfl)) (fun _ _ _ h => h) (Or.inl ⟨by kernel_rfl, ?_⟩) ?_ ?_
           rotate_left
           ·intro w'
            go_simp
            with_reducible rfl
           rotate_left
           ·exact pA
           refine take_ (i := 6) (N := some 84) (v := ?_) (a' := ?_) (bm 23 1048703) rfl rfl (take_ofW HT_.out HW_.out (by kernel_rfl)) (fun _ _ _ h => h) (Or.inl ⟨by kernel_rfl, ?_⟩) hHeld ?_ ?_
           rotate_left
           ·rintro w' ⟨s0, s1, s2, s3, s4, s5, s6, s7, s8, s9, s10, s11⟩
            go_simp
            with_reducible rfl
           rotate_left
           ·exact pA
           refine pure_ (i := 7) (N := some 85) (v := ?_) (a' := ?_) (bm 23 1048831) rfl rfl (any_of HT_.out (by kernel_rfl)) (fun _ _ _ h => h) (Or.inl ⟨by kernel_rfl, ?_⟩) ?_ ?_
           rotate_left
           ·intro w'
            go_simp
            with_reducible rfl
           rotate_left
           ·exact pA
           refine pure_ (i := 8) (N := some 86) (v := ?_) (a' := ?_) (bm 23 1049087) rfl rfl (any_of HT_.out (by kernel_rfl)) (fun _ _ _ h => h) (Or.inl ⟨by kernel_rfl, ?_⟩) ?_ ?_
           rotate_left
           ·intro w'
            go_simp
            with_reducible rfl
           rotate_left
           ·exact pA
           refine take_ (i := 9) (N := some 87) (v := ?_) (a' := ?_) (bm 23 1049599) rfl rfl (take_ofW HT_.out HW_.out (by kernel_rfl)) (fun _ _ _ h => h) (Or.inl ⟨by kernel_rfl, ?_⟩) hHeld ?_ ?_
           rotate_left
           ·rintro w' ⟨s0, s1, s2, s3, s4, s5, s6, s7, s8, s9, s10, s11⟩
            go_simp
            with_reducible rfl
           rotate_left
           ·exact pA
           refine pure_ (i := 10) (N := some 88) (v := ?_) (a' := ?_) (bm 23 1050623) rfl rfl (any_of HT_.out (by kernel_rfl)) (fun _ _ _ h => h) (Or.inl ⟨by kernel_rfl, ?_⟩) ?_ ?_
           rotate_left
           ·intro w'
            go_simp
            with_reducible rfl
           rotate_left
           ·exact pA
           refine pure_ (i := 11) (N := some 89) (v := ?_) (a' := ?_) (bm 23 1052671) rfl rfl (any_of HT_.out (by kernel_rfl)) (fun _ _ _ h => h) (Or.inl ⟨by kernel_rfl, ?_⟩) ?_ ?_
           rotate_left
           ·intro w'
            go_simp
            with_reducible rfl
           rotate_left
           ·exact pA
           refine pure_ (i := 12) (N := some 90) (v := undef) (a' := ?_) (bm 23 1056767) rfl rfl (any_of HT_.out (by kernel_rfl)) (fun _ _ _ h => h) (Or.inr ⟨by rfl, rfl⟩) ?_ ?_
           rotate_left
           ·exact pA
           refine pure_ (i := 13) (N := some 91) (v := undef) (a' := ?_) (bm 23 1064959) rfl rfl (any_of HT_.out (by kernel_rfl)) (fun _ _ _ h => h) (Or.inr ⟨by rfl, rfl⟩) ?_ ?_
           rotate_left
           ·exact pA
           refine pure_ (i := 14) (N := some 92) (v := undef) (a' := ?_) (bm 23 1081343) rfl rfl (any_of HT_.out (by kernel_rfl)) (fun _ _ _ h => h) (Or.inr ⟨by rfl, rfl⟩) ?_ ?_
           rotate_left
           ·exact pA
           refine pure_ (i := 15) (N := some 93) (v := undef) (a' := ?_) (bm 23 1114111) rfl rfl (any_of HT_.out (by kernel_rfl)) (fun _ _ _ h => h) (Or.inr ⟨by rfl, rfl⟩) ?_ ?_
           rotate_left
           ·exact pA
           refine pure_ (i := 16) (N := some 94) (v := undef) (a' := ?_) (bm 23 1179647) rfl rfl (any_of HT_.out (by kernel_rfl)) (fun _ _ _ h => h) (Or.inr ⟨by rfl, rfl⟩) ?_ ?_
           rotate_left
           ·exact pA
           refine pure_ (i := 17) (N := some 95) (v := undef) (a' := ?_) (bm 23 1310719) rfl rfl (any_of HT_.out (by kernel_rfl)) (fun _ _ _ h => h) (Or.inr ⟨by rfl, rfl⟩) ?_ ?_
           rotate_left
           ·exact pA
           refine pure_ (i := 18) (N := some 96) (v := undef) (a' := ?_) (bm 23 1572863) rfl rfl (any_of HT_.out (by kernel_rfl)) (fun _ _ _ h => h) (Or.inr ⟨by rfl, rfl⟩) ?_ ?_
           rotate_left
           ·exact pA
           refine pure_ (i := 19) (N := some 97) (v := ?_) (a' := ?_) (bm 23 2097151) rfl rfl (any_of HT_.out (by kernel_rfl)) (fun _ _ _ h => h) (Or.inl ⟨by kernel_rfl, ?_⟩) ?_ ?_
           rotate_left
           ·intro w'
            go_simp
            with_reducible rfl
           rotate_left
           ·exact pA
           refine one_ (i := 21) (N := none) (bm 23 4194303) rfl rfl (one_of HT_.out (by kernel_rfl)) (by decide) (fun K hK => ?_)
           have hs101 : w100.cell? ⟨gb781, 2, none⟩ = some (.string (⟨#[]⟩ : ByteArray)) := cz2 BK781.out
           have hfs101 := blk_frozen BK781.out 2
           have hns101_0 := NB774_781.out
           have hns101_1 := NB775_781.out
           have hms101_0 := NB781_774.out
           have hms101_1 := NB781_775.out
           refine skip_ (w1 := ?_) ?hw rfl ?_ ?_; (case hw => kernel_rfl)
           rotate_left
           ·go_simp
            rfl
           refine hK.out _ _ ⟨((cell_far (p := ⟨gb781, _, none⟩) NB774_781.out _).trans (hHeld.1)), ((cell_far (p := ⟨gb781, _, none⟩) NB774_781.out _).trans (hHeld.2.1)), ((cell_far (p := ⟨gb781, _, none⟩) NB774_781.out _).trans (hHeld.2.2.1)), ((cell_far (p := ⟨gb781, _, none⟩) NB774_781.out _).trans (hHeld.2.2.2.1)), ((cell_far (p := ⟨gb781, _, none⟩) (by first | exact Nat.ne_of_lt (Nat.lt_of_lt_of_le (by have := World.block_lt_of_cell? _ _ hw782_0; first | rwa [add_block] at this | exact this) GW781.out) | (rw [add_block]; exact Nat.ne_of_lt (Nat.lt_of_lt_of_le (by have := World.block_lt_of_cell? _ _ hw782_0; first | rwa [add_block] at this | exact this) GW781.out)) | (show (Addr.add _ _).block ≠ _; rw [add_block]; exact Nat.ne_of_lt (Nat.lt_of_lt_of_le (by have := World.block_lt_of_cell? _ _ hw782_0; first | rwa [add_block] at this | exact this) GW781.out)) | (dsimp only; exact Nat.ne_of_lt (Nat.lt_of_lt_of_le (by have := World.block_lt_of_cell? _ _ hw782_0; first | rwa [add_block] at this | exact this) GW781.out))) _).trans (hHeld.2.2.2.2.1)), ((cell_far (p := ⟨gb781, _, none⟩) (by first | exact Nat.ne_of_lt (Nat.lt_of_lt_of_le (by have := World.block_lt_of_cell? _ _ hw782_1; first | rwa [add_block] at this | exact this) GW781.out) | (rw [add_block]; exact Nat.ne_of_lt (Nat.lt_of_lt_of_le (by have := World.block_lt_of_cell? _ _ hw782_1; first | rwa [add_block] at this | exact this) GW781.out)) | (show (Addr.add _ _).block ≠ _; rw [add_block]; exact Nat.ne_of_lt (Nat.lt_of_lt_of_le (by have := World.block_lt_of_cell? _ _ hw782_1; first | rwa [add_block] at this | exact this) GW781.out)) | (dsimp only; exact Nat.ne_of_lt (Nat.lt_of_lt_of_le (by have := World.block_lt_of_cell? _ _ hw782_1; first | rwa [add_block] at this | exact this) GW781.out))) _).trans (hHeld.2.2.2.2.2.1)), ((cell_far (p := ⟨gb781, _, none⟩) (by first | exact Nat.ne_of_lt (Nat.lt_of_lt_of_le (by have := World.block_lt_of_cell? _ _ hw782_2; first | rwa [add_block] at this | exact this) GW781.out) | (rw [add_block]; exact Nat.ne_of_lt (Nat.lt_of_lt_of_le (by have := World.block_lt_of_cell? _ _ hw782_2; first | rwa [add_block] at this | exact this) GW781.out)) | (show (Addr.add _ _).block ≠ _; rw [add_block]; exact Nat.ne_of_lt (Nat.lt_of_lt_of_le (by have := World.block_lt_of_cell? _ _ hw782_2; first | rwa [add_block] at this | exact this) GW781.out)) | (dsimp only; exact Nat.ne_of_lt (Nat.lt_of_lt_of_le (by have := World.block_lt_of_cell? _ _ hw782_2; first | rwa [add_block] at this | exact this) GW781.out))) _).trans (hHeld.2.2.2.2.2.2.1)), ((cell_far (p := ⟨gb781, _, none⟩) (by first | exact Nat.ne_of_lt (Nat.lt_of_lt_of_le (by have := World.block_lt_of_cell? _ _ hw782_3; first | rwa [add_block] at this | exact this) GW781.out) | (rw [add_block]; exact Nat.ne_of_lt (Nat.lt_of_lt_of_le (by have := World.block_lt_of_cell? _ _ hw782_3; first | rwa [add_block] at this | exact this) GW781.out)) | (show (Addr.add _ _).block ≠ _; rw [add_block]; exact Nat.ne_of_lt (Nat.lt_of_lt_of_le (by have := World.block_lt_of_cell? _ _ hw782_3; first | rwa [add_block] at this | exact this) GW781.out)) | (dsimp only; exact Nat.ne_of_lt (Nat.lt_of_lt_of_le (by have := World.block_lt_of_cell? _ _ hw782_3; first | rwa [add_block] at this | exact this) GW781.out))) _).trans (hHeld.2.2.2.2.2.2.2.1)), ((cell_far (p := ⟨gb781, _, none⟩) (by first | exact Nat.ne_of_lt (Nat.lt_of_lt_of_le (by have := World.block_lt_of_cell? _ _ hw783_0; first | rwa [add_block] at this | exact this) GW781.out) | (rw [add_block]; exact Nat.ne_of_lt (Nat.lt_of_lt_of_le (by have := World.block_lt_of_cell? _ _ hw783_0; first | rwa [add_block] at this | exact this) GW781.out)) | (show (Addr.add _ _).block ≠ _; rw [add_block]; exact Nat.ne_of_lt (Nat.lt_of_lt_of_le (by have := World.block_lt_of_cell? _ _ hw783_0; first | rwa [add_block] at this | exact this) GW781.out)) | (dsimp only; exact Nat.ne_of_lt (Nat.lt_of_lt_of_le (by have := World.block_lt_of_cell? _ _ hw783_0; first | rwa [add_block] at this | exact this) GW781.out))) _).trans (hHeld.2.2.2.2.2.2.2.2.1)), ((cell_far (p := ⟨gb781, _, none⟩) (by first | exact Nat.ne_of_lt (Nat.lt_of_lt_of_le (by have := World.block_lt_of_cell? _ _ hw783_1; first | rwa [add_block] at this | exact this) GW781.out) | (rw [add_block]; exact Nat.ne_of_lt (Nat.lt_of_lt_of_le (by have := World.block_lt_of_cell? _ _ hw783_1; first | rwa [add_block] at this | exact this) GW781.out)) | (show (Addr.add _ _).block ≠ _; rw [add_block]; exact Nat.ne_of_lt (Nat.lt_of_lt_of_le (by have := World.block_lt_of_cell? _ _ hw783_1; first | rwa [add_block] at this | exact this) GW781.out)) | (dsimp only; exact Nat.ne_of_lt (Nat.lt_of_lt_of_le (by have := World.block_lt_of_cell? _ _ hw783_1; first | rwa [add_block] at this | exact this) GW781.out))) _).trans (hHeld.2.2.2.2.2.2.2.2.2.1)), ((cell_far (p := ⟨gb781, _, none⟩) (by first | exact Nat.ne_of_lt (Nat.lt_of_lt_of_le (by have := World.block_lt_of_cell? _ _ hw783_2; first | rwa [add_block] at this | exact this) GW781.out) | (rw [add_block]; exact Nat.ne_of_lt (Nat.lt_of_lt_of_le (by have := World.block_lt_of_cell? _ _ hw783_2; first | rwa [add_block] at this | exact this) GW781.out)) | (show (Addr.add _ _).block ≠ _; rw [add_block]; exact Nat.ne_of_lt (Nat.lt_of_lt_of_le (by have := World.block_lt_of_cell? _ _ hw783_2; first | rwa [add_block] at this | exact this) GW781.out)) | (dsimp only; exact Nat.ne_of_lt (Nat.lt_of_lt_of_le (by have := World.block_lt_of_cell? _ _ hw783_2; first | rwa [add_block] at this | exact this) GW781.out))) _).trans (hHeld.2.2.2.2.2.2.2.2.2.2.1)), ((cell_far (p := ⟨gb781, _, none⟩) (by first | exact Nat.ne_of_lt (Nat.lt_of_lt_of_le (by have := World.block_lt_of_cell? _ _ hw783_3; first | rwa [add_block] at this | exact this) GW781.out) | (rw [add_block]; exact Nat.ne_of_lt (Nat.lt_of_lt_of_le (by have := World.block_lt_of_cell? _ _ hw783_3; first | rwa [add_block] at this | exact this) GW781.out)) | (show (Addr.add _ _).block ≠ _; rw [add_block]; exact Nat.ne_of_lt (Nat.lt_of_lt_of_le (by have := World.block_lt_of_cell? _ _ hw783_3; first | rwa [add_block] at this | exact this) GW781.out)) | (dsimp only; exact Nat.ne_of_lt (Nat.lt_of_lt_of_le (by have := World.block_lt_of_cell? _ _ hw783_3; first | rwa [add_block] at this | exact this) GW781.out))) _).trans (hHeld.2.2.2.2.2.2.2.2.2.2.2))⟩ (fun hHeld => ?_)
           clear hK K
           refine pure_ (i := 22) (N := some 5) (v := ?_) (a' := ?_) (bm 23 8388607) rfl rfl (any_of HT_.out (by kernel_rfl)) (fun _ _ _ h => h) (Or.inl ⟨by kernel_rfl, ?_⟩) ?_ ?_
           rotate_left
           ·intro w'
            go_simp
            with_reducible rfl
           rotate_left
           ·exact pA
           refine done_ (done_of HT_.out (by kernel_rfl)) ?_
           have q102 := cf4 BK775.out
           try go_wp2
           refine bodyPost_ret (results_ct rfl _ _ gb775 46 #[.int .u64 0, .int .i64 0, .string (⟨#[]⟩ : ByteArray), .slice none 0 0] (0, 0) _ rfl (by (iterate 4 ((with_reducible repeat (first | refine blk_drewN ?_ _ | refine blk_drew ?_ | refine blk_alloc ?_ _)); refine blk_put (cs := #[.int .u64 0, .int .i64 0, .string (⟨#[]⟩ : ByteArray), .slice none 0 0]) ?_ _ _ rfl)); (with_reducible repeat (first | refine blk_drewN ?_ _ | refine blk_drew ?_ | refine blk_alloc ?_ _)); refine blk_far ?_ NB775_781.out _; (with_reducible repeat (first | refine blk_drewN ?_ _ | refine blk_drew ?_ | refine blk_alloc ?_ _)); exact BK775.out) Tryd.underlying46 rfl (by kernel_rfl)) rfl ?_
           exact ⟨_, pE, pZ, pB⟩
         ·rw [if_neg c54] at H
          exact absurd H (by simp)
        ·rw [if_neg c53] at H
         have c53b0 : ((wrap64 ((rd_T26 l0_3 1).f1)) == 1) = false := beq_eq_false_iff_ne.mpr c53
         have c53b1 : ((wrap64 ((rd_T26 l0_3 1).f1)) != 1) = true := bne_iff_ne.mpr c53
         by_cases c103 : 2 < (l0_3.length : Int)
         ·rw [if_pos c103] at H
          have c103b0 : decide (2 < (l0_3.length : Int)) = true := decide_eq_true c103
          have c103b1 : decide (2 < l0_3.length) = true := decide_eq_true (by omega)
          clear c103
          replace H := Option.bind_eq_some_iff.mp H
          obtain ⟨⟨t786, t789⟩, A1040, H⟩ := H
          try dsimp only at H
          have A104 := am A1040
          clear A1040
          by_cases c105 : t789 = true
          ·subst c105
           rw [if_pos rfl] at H
           simp only [Option.some.injEq, Prod.mk.injEq] at H
           obtain ⟨rfl, rfl, rfl, rfl, rfl⟩ := H
           have hnb112 := NB781_774.out
           have hnc112 := NB774_781.out
           have hnb113 := NB781_775.out
           have hnc113 := NB775_781.out
           have q114 := cf4 BK781.out
           have hnb115 := NB774_775.out
           have hnc115 := NB775_774.out
           have q116 := cf4 BK774.out
           have p785 : 0 ≤ (2 : Int) := (by omega)
           have q785 : 2 < (l0_3.length : Int) := pD
           obtain ⟨ad785, A785_3, c785_3, e785, hx785_0, hx785_1, hx785_2, hx785_3, hl785_3, hi785_3⟩ := at_T26 HR0_3.out 2 p785 q785
           obtain rfl : ad779 = ad785 := (by injection e785)
           (try simp only [show (2 : Int).toNat = 2 from rfl, Nat.reduceMul, Nat.reduceEqDiff, Go.Addr.add, ↓reduceIte] at hx785_0)
           (try simp only [show (2 : Int).toNat = 2 from rfl, Nat.reduceMul, Nat.reduceEqDiff, Go.Addr.add, ↓reduceIte] at hx785_1)
           (try simp only [show (2 : Int).toNat = 2 from rfl, Nat.reduceMul, Nat.reduceEqDiff, Go.Addr.add, ↓reduceIte] at hx785_2)
           (try simp only [show (2 : Int).toNat = 2 from rfl, Nat.reduceMul, Nat.reduceEqDiff, Go.Addr.add, ↓reduceIte] at hx785_3)
           have qi785 : (2 < l0_3.length) = True := eq_true (by omega)
           (try rw [show ((2 : Int)).toNat = 2 from rfl] at hx785_0)
           (try rw [show 2 * 4 = 8 from rfl] at hx785_0)
           (try rw [show ((2 : Int)).toNat = 2 from rfl] at hx785_1)
           (try rw [show 2 * 4 = 8 from rfl] at hx785_1)
           (try rw [show ((2 : Int)).toNat = 2 from rfl] at hx785_2)
           (try rw [show 2 * 4 = 8 from rfl] at hx785_2)
           (try rw [show ((2 : Int)).toNat = 2 from rfl] at hx785_3)
           (try rw [show 2 * 4 = 8 from rfl] at hx785_3)
           have hn785_0 : ad779.block ≠ gb781 := Nat.ne_of_lt (Nat.lt_of_lt_of_le (by have := World.block_lt_of_cell? _ _ hx785_0; first | rwa [add_block] at this | exact this) GW781.out)
           have hn785_1 : ad779.block ≠ gb781 := Nat.ne_of_lt (Nat.lt_of_lt_of_le (by have := World.block_lt_of_cell? _ _ hx785_0; first | rwa [add_block] at this | exact this) GW781.out)
           have hn785_2 : ad779.block ≠ gb781 := Nat.ne_of_lt (Nat.lt_of_lt_of_le (by have := World.block_lt_of_cell? _ _ hx785_0; first | rwa [add_block] at this | exact this) GW781.out)
           have hn785_3 : ad779.block ≠ gb781 := Nat.ne_of_lt (Nat.lt_of_lt_of_le (by have := World.block_lt_of_cell? _ _ hx785_0; first | rwa [add_block] at this | exact this) GW781.out)
           replace hx785_0 := (HB.out.cell (World.block_lt_of_cell? w _ hx785_0)).trans hx785_0
           replace hx785_1 := (HB.out.cell (World.block_lt_of_cell? w _ hx785_1)).trans hx785_1
           replace hx785_2 := (HB.out.cell (World.block_lt_of_cell? w _ hx785_2)).trans hx785_2
           replace hx785_3 := (HB.out.cell (World.block_lt_of_cell? w _ hx785_3)).trans hx785_3
           have HR785_3 := am hi785_3
           have HC785_3 := am hl785_3
           clear hi785_3 hl785_3
           replace hx785_0 := (cell_far (p := ⟨gb781, 0, none⟩) (pW hn785_0) (.int .u64 ((rd_T26 l0_3 0).f1))).trans hx785_0
           replace hx785_1 := (cell_far (p := ⟨gb781, 0, none⟩) (pW hn785_0) (.int .u64 ((rd_T26 l0_3 0).f1))).trans hx785_1
           replace hx785_2 := (cell_far (p := ⟨gb781, 0, none⟩) (pW hn785_0) (.int .u64 ((rd_T26 l0_3 0).f1))).trans hx785_2
           replace hx785_3 := (cell_far (p := ⟨gb781, 0, none⟩) (pW hn785_0) (.int .u64 ((rd_T26 l0_3 0).f1))).trans hx785_3
           replace hx785_0 := (cell_far (p := ⟨gb781, 1, none⟩) (pW hn785_1) (.int .i64 (wrap64 ((rd_T26 l0_3 1).f1)))).trans hx785_0
           replace hx785_1 := (cell_far (p := ⟨gb781, 1, none⟩) (pW hn785_1) (.int .i64 (wrap64 ((rd_T26 l0_3 1).f1)))).trans hx785_1
           replace hx785_2 := (cell_far (p := ⟨gb781, 1, none⟩) (pW hn785_1) (.int .i64 (wrap64 ((rd_T26 l0_3 1).f1)))).trans hx785_2
           replace hx785_3 := (cell_far (p := ⟨gb781, 1, none⟩) (pW hn785_1) (.int .i64 (wrap64 ((rd_T26 l0_3 1).f1)))).trans hx785_3
           replace hx785_0 := (cell_far (p := ⟨gb781, 2, none⟩) (pW hn785_2) (.string (⟨#[]⟩ : ByteArray))).trans hx785_0
           replace hx785_1 := (cell_far (p := ⟨gb781, 2, none⟩) (pW hn785_2) (.string (⟨#[]⟩ : ByteArray))).trans hx785_1
           replace hx785_2 := (cell_far (p := ⟨gb781, 2, none⟩) (pW hn785_2) (.string (⟨#[]⟩ : ByteArray))).trans hx785_2
           replace hx785_3 := (cell_far (p := ⟨gb781, 2, none⟩) (pW hn785_2) (.string (⟨#[]⟩ : ByteArray))).trans hx785_3
           replace hx785_0 := (cell_far (p := ⟨gb781, 3, none⟩) (pW hn785_3) (.slice none 0 0)).trans hx785_0
           replace hx785_1 := (cell_far (p := ⟨gb781, 3, none⟩) (pW hn785_3) (.slice none 0 0)).trans hx785_1
           replace hx785_2 := (cell_far (p := ⟨gb781, 3, none⟩) (pW hn785_3) (.slice none 0 0)).trans hx785_2
           replace hx785_3 := (cell_far (p := ⟨gb781, 3, none⟩) (pW hn785_3) (.slice none 0 0)).trans hx785_3
           clear hn785_0 hn785_1 hn785_2 hn785_3
           replace p785 := eq_true p785
           replace q785 := eq_true q785
           try go_wp2_with (first | ((with_reducible refine gate_callee (f := 38) rfl ?_); refine goesL_ (some 57) rfl rfl Tryd.func38 (by kernel_rfl) rfl #[.agg #[.int .i64 ((rd_T26 l0_3 2).f0), .int .u64 ((rd_T26 l0_3 2).f1), .string ((rd_T26 l0_3 2).f2), .slice A785_3 ((rd_T26 l0_3 2).f3).length c785_3]] rfl pM ?_; (with_reducible refine (snap_read.calls kj1 ((rd_T26 l0_3 2).f0) ((rd_T26 l0_3 2).f1) ((rd_T26 l0_3 2).f2) _ _ ((rd_T26 l0_3 2).f3) t786 true _ ?side1 ?side2 A104.out).mono ?_); (case side1 => exact Kd.C_below HR785_3.out pB); (case side2 => exact HC785_3.out); rintro e w117 ⟨v787, rfl, ho0, hb⟩; refine ⟨_, rfl, ?_⟩; have HO788 := am (Kd.R_lower ho0 (below_size pB)); replace BK774 := am (blk_below (g := gb774) (o := .cells #[.int .i64 a0_0, .int .u64 a0_1, .string a0_2, .slice (some ad779) l0_3.length c0_3] 26 (0, 0)) (by (with_reducible repeat (first | refine blk_drewN ?_ _ | refine blk_drew ?_ | refine blk_alloc ?_ _)); refine blk_far ?_ NB774_781.out _; (with_reducible repeat (first | refine blk_drewN ?_ _ | refine blk_drew ?_ | refine blk_alloc ?_ _)); refine blk_far ?_ NB774_781.out _; (with_reducible repeat (first | refine blk_drewN ?_ _ | refine blk_drew ?_ | refine blk_alloc ?_ _)); refine blk_far ?_ NB774_781.out _; (with_reducible repeat (first | refine blk_drewN ?_ _ | refine blk_drew ?_ | refine blk_alloc ?_ _)); refine blk_far ?_ NB774_781.out _; (with_reducible repeat (first | refine blk_drewN ?_ _ | refine blk_drew ?_ | refine blk_alloc ?_ _)); exact BK774.out) hb); replace BK775 := am (blk_below (g := gb775) (o := .cells #[.int .u64 0, .int .i64 0, .string (⟨#[]⟩ : ByteArray), .slice none 0 0] 46 (0, 0)) (by (with_reducible repeat (first | refine blk_drewN ?_ _ | refine blk_drew ?_ | refine blk_alloc ?_ _)); refine blk_far ?_ NB775_781.out _; (with_reducible repeat (first | refine blk_drewN ?_ _ | refine blk_drew ?_ | refine blk_alloc ?_ _)); refine blk_far ?_ NB775_781.out _; (with_reducible repeat (first | refine blk_drewN ?_ _ | refine blk_drew ?_ | refine blk_alloc ?_ _)); refine blk_far ?_ NB775_781.out _; (with_reducible repeat (first | refine blk_drewN ?_ _ | refine blk_drew ?_ | refine blk_alloc ?_ _)); refine blk_far ?_ NB775_781.out _; (with_reducible repeat (first | refine blk_drewN ?_ _ | refine blk_drew ?_ | refine blk_alloc ?_ _)); exact BK775.out) hb); replace BK781 := am (blk_below (g := gb781) (o := .cells #[.int .u64 ((rd_T26 l0_3 0).f1), .int .i64 (wrap64 ((rd_T26 l0_3 1).f1)), .string (⟨#[]⟩ : ByteArray), .slice none 0 0] 46 (0, 0)) (by (iterate 2 ((with_reducible repeat (first | refine blk_drewN ?_ _ | refine blk_drew ?_ | refine blk_alloc ?_ _)); refine blk_put (cs := #[.int .u64 ((rd_T26 l0_3 0).f1), .int .i64 (wrap64 ((rd_T26 l0_3 1).f1)), .string (⟨#[]⟩ : ByteArray), .slice none 0 0]) ?_ _ _ rfl)); (with_reducible repeat (first | refine blk_drewN ?_ _ | refine blk_drew ?_ | refine blk_alloc ?_ _)); refine blk_put (cs := #[.int .u64 ((rd_T26 l0_3 0).f1), .int .i64 0, .string (⟨#[]⟩ : ByteArray), .slice none 0 0]) ?_ 1 _ rfl; (with_reducible repeat (first | refine blk_drewN ?_ _ | refine blk_drew ?_ | refine blk_alloc ?_ _)); refine blk_put (cs := #[.int .u64 0, .int .i64 0, .string (⟨#[]⟩ : ByteArray), .slice none 0 0]) ?_ 0 _ rfl; (with_reducible repeat (first | refine blk_drewN ?_ _ | refine blk_drew ?_ | refine blk_alloc ?_ _)); exact BK781.out) hb); replace HB := am (below_step pB hb); (try clear hb); (try clear hb2); (try clear hk); (try clear hi); (try clear ho0); obtain ⟨Ao118, co118, eo118⟩ := Kd.R_slice HO788.out; subst eo118; have q119 := cf4 BK781.out; have q120 := cf4 BK775.out))
           refine bodyPost_ret (results_ct rfl _ _ gb775 46 #[.int .u64 ((rd_T26 l0_3 0).f1), .int .i64 (wrap64 ((rd_T26 l0_3 1).f1)), .string (⟨#[]⟩ : ByteArray), .slice Ao118 t786.length co118] (0, 0) _ rfl (by (iterate 2 ((with_reducible repeat (first | refine blk_drewN ?_ _ | refine blk_drew ?_ | refine blk_alloc ?_ _)); refine blk_put (cs := #[.int .u64 ((rd_T26 l0_3 0).f1), .int .i64 (wrap64 ((rd_T26 l0_3 1).f1)), .string (⟨#[]⟩ : ByteArray), .slice none 0 0]) ?_ _ _ rfl)); (with_reducible repeat (first | refine blk_drewN ?_ _ | refine blk_drew ?_ | refine blk_alloc ?_ _)); refine blk_put (cs := #[.int .u64 ((rd_T26 l0_3 0).f1), .int .i64 0, .string (⟨#[]⟩ : ByteArray), .slice none 0 0]) ?_ 1 _ rfl; (with_reducible repeat (first | refine blk_drewN ?_ _ | refine blk_drew ?_ | refine blk_alloc ?_ _)); refine blk_put (cs := #[.int .u64 0, .int .i64 0, .string (⟨#[]⟩ : ByteArray), .slice none 0 0]) ?_ 0 _ rfl; (with_reducible repeat (first | refine blk_drewN ?_ _ | refine blk_drew ?_ | refine blk_alloc ?_ _)); refine blk_far ?_ NB775_781.out _; (with_reducible repeat (first | refine blk_drewN ?_ _ | refine blk_drew ?_ | refine blk_alloc ?_ _)); exact BK775.out) Tryd.underlying46 rfl (by kernel_rfl)) rfl ?_
           exact ⟨_, pE, by (with_reducible repeat (first | apply Kd.R_alloc | apply Kd.R_drewN | apply Kd.R_drew)); exact Kd.R_mono (Kd.R_far (p := ⟨gb775, 3, none⟩) (Kd.R_far (p := ⟨gb775, 2, none⟩) (Kd.R_far (p := ⟨gb775, 1, none⟩) (Kd.R_far (p := ⟨gb775, 0, none⟩) (Kd.R_far (p := ⟨gb781, 3, none⟩) (Kd.R_types (Kd.R_types HO788.out BK781.out (by decide)) BK775.out (by decide)) (fun _ hk => hk.1.2) (.slice Ao118 t786.length co118)) (fun _ hk => hk.2) (.int .u64 ((rd_T26 l0_3 0).f1))) (fun _ hk => hk.2) (.int .i64 (wrap64 ((rd_T26 l0_3 1).f1)))) (fun _ hk => hk.2) (.string (⟨#[]⟩ : ByteArray))) (fun _ hk => hk.2) (.slice Ao118 t786.length co118)) (fun _ hk => trivial), pB⟩
          ·replace c105 := Bool.eq_false_iff.mpr c105
           subst c105
           rw [if_neg (show ¬ (false = true) by decide)] at H
           simp only [Option.some.injEq, Prod.mk.injEq] at H
           obtain ⟨rfl, rfl, rfl, rfl, rfl⟩ := H
           have hnb127 := NB781_774.out
           have hnc127 := NB774_781.out
           have hnb128 := NB781_775.out
           have hnc128 := NB775_781.out
           have q129 := cf4 BK781.out
           have hnb130 := NB774_775.out
           have hnc130 := NB775_774.out
           have q131 := cf4 BK774.out
           have p785 : 0 ≤ (2 : Int) := (by omega)
           have q785 : 2 < (l0_3.length : Int) := pD
           obtain ⟨ad785, A785_3, c785_3, e785, hx785_0, hx785_1, hx785_2, hx785_3, hl785_3, hi785_3⟩ := at_T26 HR0_3.out 2 p785 q785
           obtain rfl : ad779 = ad785 := (by injection e785)
           (try simp only [show (2 : Int).toNat = 2 from rfl, Nat.reduceMul, Nat.reduceEqDiff, Go.Addr.add, ↓reduceIte] at hx785_0)
           (try simp only [show (2 : Int).toNat = 2 from rfl, Nat.reduceMul, Nat.reduceEqDiff, Go.Addr.add, ↓reduceIte] at hx785_1)
           (try simp only [show (2 : Int).toNat = 2 from rfl, Nat.reduceMul, Nat.reduceEqDiff, Go.Addr.add, ↓reduceIte] at hx785_2)
           (try simp only [show (2 : Int).toNat = 2 from rfl, Nat.reduceMul, Nat.reduceEqDiff, Go.Addr.add, ↓reduceIte] at hx785_3)
           have qi785 : (2 < l0_3.length) = True := eq_true (by omega)
           (try rw [show ((2 : Int)).toNat = 2 from rfl] at hx785_0)
           (try rw [show 2 * 4 = 8 from rfl] at hx785_0)
           (try rw [show ((2 : Int)).toNat = 2 from rfl] at hx785_1)
           (try rw [show 2 * 4 = 8 from rfl] at hx785_1)
           (try rw [show ((2 : Int)).toNat = 2 from rfl] at hx785_2)
           (try rw [show 2 * 4 = 8 from rfl] at hx785_2)
           (try rw [show ((2 : Int)).toNat = 2 from rfl] at hx785_3)
           (try rw [show 2 * 4 = 8 from rfl] at hx785_3)
           have hn785_0 : ad779.block ≠ gb781 := Nat.ne_of_lt (Nat.lt_of_lt_of_le (by have := World.block_lt_of_cell? _ _ hx785_0; first | rwa [add_block] at this | exact this) GW781.out)
           have hn785_1 : ad779.block ≠ gb781 := Nat.ne_of_lt (Nat.lt_of_lt_of_le (by have := World.block_lt_of_cell? _ _ hx785_0; first | rwa [add_block] at this | exact this) GW781.out)
           have hn785_2 : ad779.block ≠ gb781 := Nat.ne_of_lt (Nat.lt_of_lt_of_le (by have := World.block_lt_of_cell? _ _ hx785_0; first | rwa [add_block] at this | exact this) GW781.out)
           have hn785_3 : ad779.block ≠ gb781 := Nat.ne_of_lt (Nat.lt_of_lt_of_le (by have := World.block_lt_of_cell? _ _ hx785_0; first | rwa [add_block] at this | exact this) GW781.out)
           replace hx785_0 := (HB.out.cell (World.block_lt_of_cell? w _ hx785_0)).trans hx785_0
           replace hx785_1 := (HB.out.cell (World.block_lt_of_cell? w _ hx785_1)).trans hx785_1
           replace hx785_2 := (HB.out.cell (World.block_lt_of_cell? w _ hx785_2)).trans hx785_2
           replace hx785_3 := (HB.out.cell (World.block_lt_of_cell? w _ hx785_3)).trans hx785_3
           have HR785_3 := am hi785_3
           have HC785_3 := am hl785_3
           clear hi785_3 hl785_3
           replace hx785_0 := (cell_far (p := ⟨gb781, 0, none⟩) (pW hn785_0) (.int .u64 ((rd_T26 l0_3 0).f1))).trans hx785_0
           replace hx785_1 := (cell_far (p := ⟨gb781, 0, none⟩) (pW hn785_0) (.int .u64 ((rd_T26 l0_3 0).f1))).trans hx785_1
           replace hx785_2 := (cell_far (p := ⟨gb781, 0, none⟩) (pW hn785_0) (.int .u64 ((rd_T26 l0_3 0).f1))).trans hx785_2
           replace hx785_3 := (cell_far (p := ⟨gb781, 0, none⟩) (pW hn785_0) (.int .u64 ((rd_T26 l0_3 0).f1))).trans hx785_3
           replace hx785_0 := (cell_far (p := ⟨gb781, 1, none⟩) (pW hn785_1) (.int .i64 (wrap64 ((rd_T26 l0_3 1).f1)))).trans hx785_0
           replace hx785_1 := (cell_far (p := ⟨gb781, 1, none⟩) (pW hn785_1) (.int .i64 (wrap64 ((rd_T26 l0_3 1).f1)))).trans hx785_1
           replace hx785_2 := (cell_far (p := ⟨gb781, 1, none⟩) (pW hn785_1) (.int .i64 (wrap64 ((rd_T26 l0_3 1).f1)))).trans hx785_2
           replace hx785_3 := (cell_far (p := ⟨gb781, 1, none⟩) (pW hn785_1) (.int .i64 (wrap64 ((rd_T26 l0_3 1).f1)))).trans hx785_3
           replace hx785_0 := (cell_far (p := ⟨gb781, 2, none⟩) (pW hn785_2) (.string (⟨#[]⟩ : ByteArray))).trans hx785_0
           replace hx785_1 := (cell_far (p := ⟨gb781, 2, none⟩) (pW hn785_2) (.string (⟨#[]⟩ : ByteArray))).trans hx785_1
           replace hx785_2 := (cell_far (p := ⟨gb781, 2, none⟩) (pW hn785_2) (.string (⟨#[]⟩ : ByteArray))).trans hx785_2
           replace hx785_3 := (cell_far (p := ⟨gb781, 2, none⟩) (pW hn785_2) (.string (⟨#[]⟩ : ByteArray))).trans hx785_3
           replace hx785_0 := (cell_far (p := ⟨gb781, 3, none⟩) (pW hn785_3) (.slice none 0 0)).trans hx785_0
           replace hx785_1 := (cell_far (p := ⟨gb781, 3, none⟩) (pW hn785_3) (.slice none 0 0)).trans hx785_1
           replace hx785_2 := (cell_far (p := ⟨gb781, 3, none⟩) (pW hn785_3) (.slice none 0 0)).trans hx785_2
           replace hx785_3 := (cell_far (p := ⟨gb781, 3, none⟩) (pW hn785_3) (.slice none 0 0)).trans hx785_3
           clear hn785_0 hn785_1 hn785_2 hn785_3
           replace p785 := eq_true p785
           replace q785 := eq_true q785
           try go_wp2_with (first | ((with_reducible refine gate_callee (f := 38) rfl ?_); refine goesL_ (some 57) rfl rfl Tryd.func38 (by kernel_rfl) rfl #[.agg #[.int .i64 ((rd_T26 l0_3 2).f0), .int .u64 ((rd_T26 l0_3 2).f1), .string ((rd_T26 l0_3 2).f2), .slice A785_3 ((rd_T26 l0_3 2).f3).length c785_3]] rfl pM ?_; (with_reducible refine (snap_read.calls kj1 ((rd_T26 l0_3 2).f0) ((rd_T26 l0_3 2).f1) ((rd_T26 l0_3 2).f2) _ _ ((rd_T26 l0_3 2).f3) t786 false _ ?side1 ?side2 A104.out).mono ?_); (case side1 => exact Kd.C_below HR785_3.out pB); (case side2 => exact HC785_3.out); rintro e w132 ⟨v787, rfl, ho0, hb⟩; refine ⟨_, rfl, ?_⟩; have HO788 := am (Kd.R_lower ho0 (below_size pB)); replace BK774 := am (blk_below (g := gb774) (o := .cells #[.int .i64 a0_0, .int .u64 a0_1, .string a0_2, .slice (some ad779) l0_3.length c0_3] 26 (0, 0)) (by (with_reducible repeat (first | refine blk_drewN ?_ _ | refine blk_drew ?_ | refine blk_alloc ?_ _)); refine blk_far ?_ NB774_781.out _; (with_reducible repeat (first | refine blk_drewN ?_ _ | refine blk_drew ?_ | refine blk_alloc ?_ _)); refine blk_far ?_ NB774_781.out _; (with_reducible repeat (first | refine blk_drewN ?_ _ | refine blk_drew ?_ | refine blk_alloc ?_ _)); refine blk_far ?_ NB774_781.out _; (with_reducible repeat (first | refine blk_drewN ?_ _ | refine blk_drew ?_ | refine blk_alloc ?_ _)); refine blk_far ?_ NB774_781.out _; (with_reducible repeat (first | refine blk_drewN ?_ _ | refine blk_drew ?_ | refine blk_alloc ?_ _)); exact BK774.out) hb); replace BK775 := am (blk_below (g := gb775) (o := .cells #[.int .u64 0, .int .i64 0, .string (⟨#[]⟩ : ByteArray), .slice none 0 0] 46 (0, 0)) (by (with_reducible repeat (first | refine blk_drewN ?_ _ | refine blk_drew ?_ | refine blk_alloc ?_ _)); refine blk_far ?_ NB775_781.out _; (with_reducible repeat (first | refine blk_drewN ?_ _ | refine blk_drew ?_ | refine blk_alloc ?_ _)); refine blk_far ?_ NB775_781.out _; (with_reducible repeat (first | refine blk_drewN ?_ _ | refine blk_drew ?_ | refine blk_alloc ?_ _)); refine blk_far ?_ NB775_781.out _; (with_reducible repeat (first | refine blk_drewN ?_ _ | refine blk_drew ?_ | refine blk_alloc ?_ _)); refine blk_far ?_ NB775_781.out _; (with_reducible repeat (first | refine blk_drewN ?_ _ | refine blk_drew ?_ | refine blk_alloc ?_ _)); exact BK775.out) hb); replace BK781 := am (blk_below (g := gb781) (o := .cells #[.int .u64 ((rd_T26 l0_3 0).f1), .int .i64 (wrap64 ((rd_T26 l0_3 1).f1)), .string (⟨#[]⟩ : ByteArray), .slice none 0 0] 46 (0, 0)) (by (iterate 2 ((with_reducible repeat (first | refine blk_drewN ?_ _ | refine blk_drew ?_ | refine blk_alloc ?_ _)); refine blk_put (cs := #[.int .u64 ((rd_T26 l0_3 0).f1), .int .i64 (wrap64 ((rd_T26 l0_3 1).f1)), .string (⟨#[]⟩ : ByteArray), .slice none 0 0]) ?_ _ _ rfl)); (with_reducible repeat (first | refine blk_drewN ?_ _ | refine blk_drew ?_ | refine blk_alloc ?_ _)); refine blk_put (cs := #[.int .u64 ((rd_T26 l0_3 0).f1), .int .i64 0, .string (⟨#[]⟩ : ByteArray), .slice none 0 0]) ?_ 1 _ rfl; (with_reducible repeat (first | refine blk_drewN ?_ _ | refine blk_drew ?_ | refine blk_alloc ?_ _)); refine blk_put (cs := #[.int .u64 0, .int .i64 0, .string (⟨#[]⟩ : ByteArray), .slice none 0 0]) ?_ 0 _ rfl; (with_reducible repeat (first | refine blk_drewN ?_ _ | refine blk_drew ?_ | refine blk_alloc ?_ _)); exact BK781.out) hb); replace HB := am (below_step pB hb); (try clear hb); (try clear hb2); (try clear hk); (try clear hi); (try clear ho0); obtain ⟨Ao133, co133, eo133⟩ := Kd.R_slice HO788.out; subst eo133; have q134 := cf4 BK781.out; have q135 := cf4 BK775.out))
           refine bodyPost_ret (results_ct rfl _ _ gb775 46 #[.int .u64 0, .int .i64 0, .string (⟨#[]⟩ : ByteArray), .slice none 0 0] (0, 0) _ rfl (by (iterate 4 ((with_reducible repeat (first | refine blk_drewN ?_ _ | refine blk_drew ?_ | refine blk_alloc ?_ _)); refine blk_put (cs := #[.int .u64 0, .int .i64 0, .string (⟨#[]⟩ : ByteArray), .slice none 0 0]) ?_ _ _ rfl)); (with_reducible repeat (first | refine blk_drewN ?_ _ | refine blk_drew ?_ | refine blk_alloc ?_ _)); refine blk_far ?_ NB775_781.out _; (with_reducible repeat (first | refine blk_drewN ?_ _ | refine blk_drew ?_ | refine blk_alloc ?_ _)); exact BK775.out) Tryd.underlying46 rfl (by kernel_rfl)) rfl ?_
           exact ⟨_, pE, pZ, pB⟩
         ·rw [if_neg c103] at H
          exact absurd H (by simp)
       ·rw [if_neg c52] at H
        have c52b0 : ((l0_3.length : Int) == 3) = false := beq_eq_false_iff_ne.mpr c52
        have c52b1 : ((l0_3.length : Int) != 3) = true := bne_iff_ne.mpr c52
        simp only [Option.some.injEq, Prod.mk.injEq] at H
        obtain ⟨rfl, rfl, rfl, rfl, rfl⟩ := H
        have hnb142 := NB781_774.out
        have hnc142 := NB774_781.out
        have hnb143 := NB781_775.out
        have hnc143 := NB775_781.out
        have q144 := cf4 BK781.out
        have hnb145 := NB774_775.out
        have hnc145 := NB775_774.out
        have q146 := cf4 BK774.out
        have q147 := cf4 BK775.out
        try go_wp2
        refine bodyPost_ret (results_ct rfl _ _ gb775 46 #[.int .u64 0, .int .i64 0, .string (⟨#[]⟩ : ByteArray), .slice none 0 0] (0, 0) _ rfl (by (iterate 4 ((with_reducible repeat (first | refine blk_drewN ?_ _ | refine blk_drew ?_ | refine blk_alloc ?_ _)); refine blk_put (cs := #[.int .u64 0, .int .i64 0, .string (⟨#[]⟩ : ByteArray), .slice none 0 0]) ?_ _ _ rfl)); (with_reducible repeat (first | refine blk_drewN ?_ _ | refine blk_drew ?_ | refine blk_alloc ?_ _)); refine blk_far ?_ NB775_781.out _; (with_reducible repeat (first | refine blk_drewN ?_ _ | refine blk_drew ?_ | refine blk_alloc ?_ _)); refine blk_far ?_ NB775_781.out _; (with_reducible repeat (first | refine blk_drewN ?_ _ | refine blk_drew ?_ | refine blk_alloc ?_ _)); refine blk_far ?_ NB775_781.out _; (with_reducible repeat (first | refine blk_drewN ?_ _ | refine blk_drew ?_ | refine blk_alloc ?_ _)); refine blk_far ?_ NB775_781.out _; (with_reducible repeat (first | refine blk_drewN ?_ _ | refine blk_drew ?_ | refine blk_alloc ?_ _)); exact BK775.out) Tryd.underlying46 rfl (by kernel_rfl)) rfl ?_
        exact ⟨_, pE, pZ, pB⟩
     ·rw [if_neg c25] at H
      exact absurd H (by simp)
    ·rw [if_neg c24] at H
     exact absurd H (by simp)
end Go.Proofs.YtlkaffbgekbcfaaDoor.Pr
end
section
namespace Go.Proofs.YtlkaffbgekbcfaaDoor.Pr
open Go.RowKit Go.Proofs.YtlkaffbgekbcfaaDoorW.PrintWords Go.Proofs.YtlkaffbgekbcfaaDoorW.PrintLast Go.Proofs.YtlkaffbgekbcfaaDoorW.PrintMore
attribute [local go_sem] max2_int min2_int max_two min_two max_three min_three max_four min_four
end Go.Proofs.YtlkaffbgekbcfaaDoor.Pr
end
section
namespace Go.Proofs.YtlkaffbgekbcfaaDoor.Pr
open Go.RowKit Go.Proofs.YtlkaffbgekbcfaaDoorW.PrintWords Go.Proofs.YtlkaffbgekbcfaaDoorW.PrintLast Go.Proofs.YtlkaffbgekbcfaaDoorW.PrintMore
attribute [local go_sem] max2_int min2_int max_two min_two max_three min_three max_four min_four
end Go.Proofs.YtlkaffbgekbcfaaDoor.Pr
end
section
namespace Go.Proofs.YtlkaffbgekbcfaaDoor.Pr
open Go.RowKit Go.Proofs.YtlkaffbgekbcfaaDoorW.PrintWords Go.Proofs.YtlkaffbgekbcfaaDoorW.PrintLast Go.Proofs.YtlkaffbgekbcfaaDoorW.PrintMore
attribute [local go_sem] max2_int min2_int max_two min_two max_three min_three max_four min_four
def minstrelref19_part.f (a0_0 : Int) (a0_1 : Int) (a0_2 : ByteArray) (l0_3 : List (S26)) (a1 : Int) : Option (Int × Int × ByteArray × (List (S26))) := if a0_0 = 2 then (if a1 ≥ (l0_3.length : Int) then (some (0, 0, (⟨#[]⟩ : ByteArray), ([] : List (S26)))) else (if 0 ≤ a1 then (if a1 < (l0_3.length : Int) then (some ((rd_T26 l0_3 a1).f0, (rd_T26 l0_3 a1).f1, (rd_T26 l0_3 a1).f2, (rd_T26 l0_3 a1).f3)) else (none)) else (none))) else (some (0, 0, (⟨#[]⟩ : ByteArray), ([] : List (S26))))
set_option maxHeartbeats 8000000 in
set_option maxRecDepth 100000 in
theorem minstrelref19_part.calls (a0_0 : Int) (a0_1 : Int) (a0_2 : ByteArray) (P0_3_ : Nat → Prop) (A0_3 : Option Addr) (c0_3 : Nat) (l0_3 : List (S26)) (a1 : Int) (r1 : Int) (r2 : Int) (r3 : ByteArray) (r4 : List (S26)) (w : World) (hs0_3 : Kd.V k26 26 w w.heap.size (fun k_ => P0_3_ k_) (.slice A0_3 l0_3.length c0_3) l0_3) (h : minstrelref19_part.f a0_0 a0_1 a0_2 l0_3 a1 = some (r1, r2, r3, r4)) :
  Calls Tryd.prog 41 #[.agg #[.int .i64 a0_0, .int .u64 a0_1, .string a0_2, .slice A0_3 l0_3.length c0_3], .int .i64 a1] w fun e w' => ∃ v3_ : Value, e = .returned (.agg #[.int .i64 r1, .int .u64 r2, .string r3, v3_]) ∧ Kd.V k26 26 w' w.heap.size (fun k_ => (P0_3_ k_ ∨ w.heap.size ≤ k_)) v3_ r4 ∧ Below w.heap.size w w' := by
 have hu26 := Tryd.underlying26
 have HO0_3 := am (show Kd.V k26 26 w w.heap.size (fun k_ => (P0_3_ k_ ∨ w.heap.size ≤ k_)) (.slice A0_3 l0_3.length c0_3) l0_3 from Kd.V_mono hs0_3 (fun k_ hk => .inl hk))
 have HB := am (Below.refl w.heap.size w)
 have H : (if a0_0 = 2 then (if a1 ≥ (l0_3.length : Int) then (some (0, 0, (⟨#[]⟩ : ByteArray), ([] : List (S26)))) else (if 0 ≤ a1 then (if a1 < (l0_3.length : Int) then (some ((rd_T26 l0_3 a1).f0, (rd_T26 l0_3 a1).f1, (rd_T26 l0_3 a1).f2, (rd_T26 l0_3 a1).f3)) else (none)) else (none))) else (some (0, 0, (⟨#[]⟩ : ByteArray), ([] : List (S26))))) = some (r1, r2, r3, r4) := h
 clear h
 by_cases c3 : a0_0 = 2
 ·rw [if_pos c3] at H
  have c3b0 : (a0_0 == 2) = true := beq_iff_eq.mpr c3
  have c3b1 : (a0_0 != 2) = false := bne_eq_false_iff_eq.mpr c3
  clear c3
  by_cases c4 : a1 ≥ (l0_3.length : Int)
  ·rw [if_pos c4] at H
   have c4b0 : decide ((l0_3.length : Int) ≤ a1) = true := decide_eq_true c4
   clear c4
   simp only [Option.some.injEq, Prod.mk.injEq] at H
   obtain ⟨rfl, rfl, rfl, rfl⟩ := H
   go_enter Tryd.func41, Tryd.ntmps41
   go_wp2_with (first | ((with_reducible refine gate_dst (N := 2) rfl ?_); (try (refine gate_guard (by rfl) ?_; dsimp only)); refine box_event ?hg (N := 2) ?hd (cs := #[.int .i64 a0_0, .int .u64 a0_1, .string a0_2, .slice A0_3 l0_3.length c0_3]) (t := 26) ?hr ?_; (case hd => rfl); (case hg => rfl); (case hr => first | (go_simp; done) | (go_simp; rfl)); intro gb498 hg w5 hbox hb; replace HO0_3 := am (Kd.V_below (Kd.V_elderB (pV HO0_3.out) gb498 (Nat.le_of_eq hg.symm)) hb); have BK498 := am (hbox); have GW498 := am ((by rw [hg]; exact (below_size pB) : w.heap.size ≤ gb498)); have GE498 := am ((by rw [hg]; exact (below_size pB) : w.heap.size ≤ gb498)); replace HB := am (below_step pB hb); clear hb hbox hg) | ((with_reducible refine gate_dst (N := 4) rfl ?_); (try (refine gate_guard (by rfl) ?_; dsimp only)); refine box_event ?hg (N := 4) ?hd (cs := #[.int .i64 0, .int .u64 0, .string (⟨#[]⟩ : ByteArray), .slice none 0 0]) (t := 26) ?hr ?_; (case hd => rfl); (case hg => rfl); (case hr => first | (go_simp; done) | (go_simp; rfl)); intro gb499 hg w6 hbox hb; replace HO0_3 := am (Kd.V_below (Kd.V_elderB (pV HO0_3.out) gb499 (Nat.le_of_eq hg.symm)) hb); have BK499 := am (hbox); have GW499 := am ((by rw [hg]; exact (below_size pB) : w.heap.size ≤ gb499)); have GE499 := am ((by rw [hg]; exact (below_size pB) : w.heap.size ≤ gb499)); have NB498_499 := am ((by rw [hg]; exact Nat.ne_of_lt (pkl BK498.out) : gb498 ≠ gb499)); have NB499_498 := am ((by rw [hg]; exact Nat.ne_of_gt (pkl BK498.out) : gb499 ≠ gb498)); replace BK498 := am (pkb BK498.out hb); replace HB := am (below_step pB hb); clear hb hbox hg; have hnb7 := NB498_499.out; have hnc7 := NB499_498.out; have q8 := cf4 BK498.out; have q9 := cf4 BK499.out))
   refine bodyPost_ret (results_cell_row rfl _ _ gb499 26 #[.int .i64 0, .int .u64 0, .string (⟨#[]⟩ : ByteArray), .slice none 0 0] (0, 0) _ rfl (by (iterate 4 ((with_reducible repeat (first | refine blk_drewN ?_ _ | refine blk_drew ?_ | refine blk_alloc ?_ _)); refine blk_put (cs := #[.int .i64 0, .int .u64 0, .string (⟨#[]⟩ : ByteArray), .slice none 0 0]) ?_ _ _ rfl)); (with_reducible repeat (first | refine blk_drewN ?_ _ | refine blk_drew ?_ | refine blk_alloc ?_ _)); exact BK499.out) Tryd.underlying26 rfl (by kernel_rfl)) rfl ?_
   exact ⟨_, pE, (Kd.V_nil _ _ _ _ _), pB⟩
  ·rw [if_neg c4] at H
   have c4b0 : decide ((l0_3.length : Int) ≤ a1) = false := decide_eq_false c4
   clear c4
   by_cases c10 : 0 ≤ a1
   ·rw [if_pos c10] at H
    have c10b0 : decide (0 ≤ a1) = true := decide_eq_true c10
    clear c10
    by_cases c11 : a1 < (l0_3.length : Int)
    ·rw [if_pos c11] at H
     have c11b0 : decide (a1 < (l0_3.length : Int)) = true := decide_eq_true c11
     clear c11
     simp only [Option.some.injEq, Prod.mk.injEq] at H
     obtain ⟨rfl, rfl, rfl, rfl⟩ := H
     go_enter Tryd.func41, Tryd.ntmps41
     go_wp2_with (first | ((with_reducible refine gate_dst (N := 2) rfl ?_); (try (refine gate_guard (by rfl) ?_; dsimp only)); refine box_event ?hg (N := 2) ?hd (cs := #[.int .i64 a0_0, .int .u64 a0_1, .string a0_2, .slice A0_3 l0_3.length c0_3]) (t := 26) ?hr ?_; (case hd => rfl); (case hg => rfl); (case hr => first | (go_simp; done) | (go_simp; rfl)); intro gb498 hg w12 hbox hb; replace HO0_3 := am (Kd.V_below (Kd.V_elderB (pV HO0_3.out) gb498 (Nat.le_of_eq hg.symm)) hb); have BK498 := am (hbox); have GW498 := am ((by rw [hg]; exact (below_size pB) : w.heap.size ≤ gb498)); have GE498 := am ((by rw [hg]; exact (below_size pB) : w.heap.size ≤ gb498)); replace HB := am (below_step pB hb); clear hb hbox hg) | ((with_reducible refine gate_dst (N := 4) rfl ?_); (try (refine gate_guard (by rfl) ?_; dsimp only)); refine box_event ?hg (N := 4) ?hd (cs := #[.int .i64 0, .int .u64 0, .string (⟨#[]⟩ : ByteArray), .slice none 0 0]) (t := 26) ?hr ?_; (case hd => rfl); (case hg => rfl); (case hr => first | (go_simp; done) | (go_simp; rfl)); intro gb499 hg w13 hbox hb; replace HO0_3 := am (Kd.V_below (Kd.V_elderB (pV HO0_3.out) gb499 (Nat.le_of_eq hg.symm)) hb); have BK499 := am (hbox); have GW499 := am ((by rw [hg]; exact (below_size pB) : w.heap.size ≤ gb499)); have GE499 := am ((by rw [hg]; exact (below_size pB) : w.heap.size ≤ gb499)); have NB498_499 := am ((by rw [hg]; exact Nat.ne_of_lt (pkl BK498.out) : gb498 ≠ gb499)); have NB499_498 := am ((by rw [hg]; exact Nat.ne_of_gt (pkl BK498.out) : gb499 ≠ gb498)); replace BK498 := am (pkb BK498.out hb); replace HB := am (below_step pB hb); clear hb hbox hg; have hnb14 := NB498_499.out; have hnc14 := NB499_498.out; have q15 := cf4 BK498.out; have p500 : 0 ≤ (a1 : Int) := pD; have q500 : a1 < (l0_3.length : Int) := pD; obtain ⟨ad500, A500_3, c500_3, e500, hx500_0, hx500_1, hx500_2, hx500_3, hl500_3, hi500_3⟩ := at_T26 (Kd.V_reads' HO0_3.out).2.2 a1 p500 q500; cases e500; obtain ⟨ce500, hce500, hMe500, hcc500⟩ := Kd.V_get HO0_3.out z26 a1 p500 (by first | exact q500 | exact pD | (have e_ := (Kd.V_reads' HO0_3.out).1; omega)); obtain ⟨ua500_3, uc500_3, rfl, ul500_3, ge500_3⟩ := k26_openF hMe500; have hv500_3 := hcc500 3 _ rfl; rw [add_field _ _ 3 (by omega)] at hv500_3; replace hv500_3 := Option.some.inj (hv500_3.symm.trans hx500_3); injection hv500_3 with hva_ hvn_ hvc_; rw [hva_] at ge500_3; rw [hvc_] at ul500_3; have HL500_3 := am (show Kd.V k26 26 _ w.heap.size _ _ ((rd_T26 l0_3 a1).f3) from Kd.V_mk ul500_3 ge500_3); clear hva_ hvn_ hvc_ ge500_3 ul500_3; clear hcc500 hce500; have HR500_3 := am hi500_3; have HC500_3 := am hl500_3; clear hi500_3 hl500_3; replace p500 := eq_true p500; replace q500 := eq_true q500; have q16 := cf4 BK499.out))
     refine bodyPost_ret (results_cell_row rfl _ _ gb499 26 #[.int .i64 ((rd_T26 l0_3 a1).f0), .int .u64 ((rd_T26 l0_3 a1).f1), .string ((rd_T26 l0_3 a1).f2), .slice A500_3 ((rd_T26 l0_3 a1).f3).length c500_3] (0, 0) _ rfl (by (with_reducible repeat (first | refine blk_drewN ?_ _ | refine blk_drew ?_ | refine blk_alloc ?_ _)); refine blk_put (cs := #[.int .i64 ((rd_T26 l0_3 a1).f0), .int .u64 ((rd_T26 l0_3 a1).f1), .string ((rd_T26 l0_3 a1).f2), .slice none 0 0]) ?_ 3 _ rfl; (with_reducible repeat (first | refine blk_drewN ?_ _ | refine blk_drew ?_ | refine blk_alloc ?_ _)); refine blk_put (cs := #[.int .i64 ((rd_T26 l0_3 a1).f0), .int .u64 ((rd_T26 l0_3 a1).f1), .string (⟨#[]⟩ : ByteArray), .slice none 0 0]) ?_ 2 _ rfl; (with_reducible repeat (first | refine blk_drewN ?_ _ | refine blk_drew ?_ | refine blk_alloc ?_ _)); refine blk_put (cs := #[.int .i64 ((rd_T26 l0_3 a1).f0), .int .u64 0, .string (⟨#[]⟩ : ByteArray), .slice none 0 0]) ?_ 1 _ rfl; (with_reducible repeat (first | refine blk_drewN ?_ _ | refine blk_drew ?_ | refine blk_alloc ?_ _)); refine blk_put (cs := #[.int .i64 0, .int .u64 0, .string (⟨#[]⟩ : ByteArray), .slice none 0 0]) ?_ 0 _ rfl; (with_reducible repeat (first | refine blk_drewN ?_ _ | refine blk_drew ?_ | refine blk_alloc ?_ _)); exact BK499.out) Tryd.underlying26 rfl (by kernel_rfl)) rfl ?_
     exact ⟨_, pE, by (with_reducible repeat (first | apply Kd.V_alloc | apply Kd.V_drewN | apply Kd.V_drew)); exact Kd.V_mono (Kd.V_far (p := ⟨gb499, 3, none⟩) (Kd.V_far (p := ⟨gb499, 2, none⟩) (Kd.V_far (p := ⟨gb499, 1, none⟩) (Kd.V_far (p := ⟨gb499, 0, none⟩) (Kd.V_mono HL500_3.out (fun k_ hk => (⟨hk, hk.2⟩ : _ ∧ k_ ≠ gb499))) (fun _ hk => hk.2) (.int .i64 ((rd_T26 l0_3 a1).f0))) (fun _ hk => hk.2) (.int .u64 ((rd_T26 l0_3 a1).f1))) (fun _ hk => hk.2) (.string ((rd_T26 l0_3 a1).f2))) (fun _ hk => hk.2) (.slice A500_3 ((rd_T26 l0_3 a1).f3).length c500_3)) (fun _ hk => hk.1.1.1), pB⟩
    ·rw [if_neg c11] at H
     exact absurd H (by simp)
   ·rw [if_neg c10] at H
    exact absurd H (by simp)
 ·rw [if_neg c3] at H
  have c3b0 : (a0_0 == 2) = false := beq_eq_false_iff_ne.mpr c3
  have c3b1 : (a0_0 != 2) = true := bne_iff_ne.mpr c3
  simp only [Option.some.injEq, Prod.mk.injEq] at H
  obtain ⟨rfl, rfl, rfl, rfl⟩ := H
  go_enter Tryd.func41, Tryd.ntmps41
  go_wp2_with (first | ((with_reducible refine gate_dst (N := 2) rfl ?_); (try (refine gate_guard (by rfl) ?_; dsimp only)); refine box_event ?hg (N := 2) ?hd (cs := #[.int .i64 a0_0, .int .u64 a0_1, .string a0_2, .slice A0_3 l0_3.length c0_3]) (t := 26) ?hr ?_; (case hd => rfl); (case hg => rfl); (case hr => first | (go_simp; done) | (go_simp; rfl)); intro gb498 hg w17 hbox hb; replace HO0_3 := am (Kd.V_below (Kd.V_elderB (pV HO0_3.out) gb498 (Nat.le_of_eq hg.symm)) hb); have BK498 := am (hbox); have GW498 := am ((by rw [hg]; exact (below_size pB) : w.heap.size ≤ gb498)); have GE498 := am ((by rw [hg]; exact (below_size pB) : w.heap.size ≤ gb498)); replace HB := am (below_step pB hb); clear hb hbox hg) | ((with_reducible refine gate_dst (N := 4) rfl ?_); (try (refine gate_guard (by rfl) ?_; dsimp only)); refine box_event ?hg (N := 4) ?hd (cs := #[.int .i64 0, .int .u64 0, .string (⟨#[]⟩ : ByteArray), .slice none 0 0]) (t := 26) ?hr ?_; (case hd => rfl); (case hg => rfl); (case hr => first | (go_simp; done) | (go_simp; rfl)); intro gb499 hg w18 hbox hb; replace HO0_3 := am (Kd.V_below (Kd.V_elderB (pV HO0_3.out) gb499 (Nat.le_of_eq hg.symm)) hb); have BK499 := am (hbox); have GW499 := am ((by rw [hg]; exact (below_size pB) : w.heap.size ≤ gb499)); have GE499 := am ((by rw [hg]; exact (below_size pB) : w.heap.size ≤ gb499)); have NB498_499 := am ((by rw [hg]; exact Nat.ne_of_lt (pkl BK498.out) : gb498 ≠ gb499)); have NB499_498 := am ((by rw [hg]; exact Nat.ne_of_gt (pkl BK498.out) : gb499 ≠ gb498)); replace BK498 := am (pkb BK498.out hb); replace HB := am (below_step pB hb); clear hb hbox hg; have hnb19 := NB498_499.out; have hnc19 := NB499_498.out; have q20 := cf4 BK498.out; have q21 := cf4 BK499.out))
  refine bodyPost_ret (results_cell_row rfl _ _ gb499 26 #[.int .i64 0, .int .u64 0, .string (⟨#[]⟩ : ByteArray), .slice none 0 0] (0, 0) _ rfl (by (iterate 4 ((with_reducible repeat (first | refine blk_drewN ?_ _ | refine blk_drew ?_ | refine blk_alloc ?_ _)); refine blk_put (cs := #[.int .i64 0, .int .u64 0, .string (⟨#[]⟩ : ByteArray), .slice none 0 0]) ?_ _ _ rfl)); (with_reducible repeat (first | refine blk_drewN ?_ _ | refine blk_drew ?_ | refine blk_alloc ?_ _)); exact BK499.out) Tryd.underlying26 rfl (by kernel_rfl)) rfl ?_
  exact ⟨_, pE, (Kd.V_nil _ _ _ _ _), pB⟩
mutual
def minstrelref19_numbers.l0 : Nat → List Int → Int → Int → Int → ByteArray → List (S26) → Option (List Int)
 | 0, _, _, _, _, _, _ => none
 | k + 1, x3, x4, x502000, x502001, x502002, x502003 => if x502000 = 2 then (minstrelref19_numbers.j1 k x3 x4 (decide (x4 < (x502003.length : Int))) x502000 x502001 x502002 x502003) else (minstrelref19_numbers.j1 k x3 x4 false x502000 x502001 x502002 x502003)
def minstrelref19_numbers.j1 : Nat → List Int → Int → Bool → Int → Int → ByteArray → List (S26) → Option (List Int)
 | 0, _, _, _, _, _, _, _ => none
 | k + 1, x3, x4, x16, x502000, x502001, x502002, x502003 => if x16 = true then (if 0 ≤ x4 then (if x4 < (x502003.length : Int) then (if ((rd_T26 x502003 x4).f1) ≤ 64 then (if x3.length < 17592186044416 then (minstrelref19_numbers.l0 k (x3 ++ [wrap64 ((rd_T26 x502003 x4).f1)]) (wrap64 (x4 + 1)) x502000 x502001 x502002 x502003) else (none)) else (if x3.length < 17592186044416 then (minstrelref19_numbers.l0 k (x3 ++ [0]) (wrap64 (x4 + 1)) x502000 x502001 x502002 x502003) else (none))) else (none)) else (none)) else (some x3)
end
def minstrelref19_numbers.f (k : Nat) (a0_0 : Int) (a0_1 : Int) (a0_2 : ByteArray) (l0_3 : List (S26)) : Option (List Int) := minstrelref19_numbers.l0 k (([] : List Int)) 0 a0_0 a0_1 a0_2 l0_3
set_option maxHeartbeats 8000000 in
set_option maxRecDepth 100000 in
theorem minstrelref19_numbers.calls (k : Nat) (a0_0 : Int) (a0_1 : Int) (a0_2 : ByteArray) (A0_3 : Option Addr) (c0_3 : Nat) (l0_3 : List (S26)) (r : List Int) (w : World) (hr0_3 : Kd.C k26 w A0_3 l0_3.length l0_3) (hc0_3 : l0_3.length ≤ c0_3) (h : minstrelref19_numbers.f k a0_0 a0_1 a0_2 l0_3 = some r) :
  Calls Tryd.prog 42 #[.agg #[.int .i64 a0_0, .int .u64 a0_1, .string a0_2, .slice A0_3 l0_3.length c0_3]] w fun e w' => ∃ v0_ : Value, e = .returned (v0_) ∧ Kd.R (Kd.int .i64) 3 w' w.heap.size (fun _ => True) v0_ r ∧ Below w.heap.size w w' := by
 have hu26 := Tryd.underlying26
 have HR0_3 := am hr0_3
 have HC0_3 := am hc0_3
 clear hr0_3 hc0_3
 have HB := am (Below.refl w.heap.size w)
 have H : (minstrelref19_numbers.l0 k (([] : List Int)) 0 a0_0 a0_1 a0_2 l0_3) = some r := h
 clear h
 obtain ⟨y502, hy502⟩ : ∃ y_ : List Int, y_ = (([] : List Int)) := ⟨_, rfl⟩
 replace H : (minstrelref19_numbers.l0 k y502 0 a0_0 a0_1 a0_2 l0_3) = some r := by first | (rw [hy502]; with_reducible exact H) | (have H2_ := (Option.bind_some _ _).symm.trans H; rw [hy502]; with_reducible exact H2_) | (have H2_ := (Option.bind_some _ _).symm.trans H; with_reducible exact H2_) | with_reducible exact H | (rw [hy502]; exact H) | exact H
 have Ny502 := am hy502
 clear hy502
 have H' := am H
 clear H
 go_enter Tryd.func42, Tryd.ntmps42
 go_wp2_with (first | ((with_reducible refine gate_dst (N := 1) rfl ?_); (try (refine gate_guard (by rfl) ?_; dsimp only)); refine box_event ?hg (N := 1) ?hd (cs := #[.int .i64 a0_0, .int .u64 a0_1, .string a0_2, .slice A0_3 l0_3.length c0_3]) (t := 26) ?hr ?_; (case hd => rfl); (case hg => rfl); (case hr => first | (go_simp; done) | (go_simp; rfl)); intro gb501 hg w2 hbox hb; have BK501 := am (hbox); have GW501 := am ((by rw [hg]; exact (below_size pB) : w.heap.size ≤ gb501)); have GE501 := am ((by rw [hg]; exact (below_size pB) : w.heap.size ≤ gb501)); replace HB := am (below_step pB hb); clear hb hbox hg) | ((with_reducible refine gate_dst (N := 6) rfl ?_); (try (refine gate_guard (by rfl) ?_; dsimp only)); refine Kd.R_lit (Kd.int .i64) _ 3 ?hg (N := 6) ?hd (xs := ([] : List Int)) (inner := []) (ok := fun _ => True) (okp := fun _ => True) ?hr ?hp (fun _ hk => hk) trivial (Below.refl _ _) (Nat.le_refl _) (by simp) ?_; (case hd => rfl); (case hg => rfl); (case hr => first | (go_simp; done) | (go_simp; rfl)); (case hp => exact (Reps.none _ _)); intro v503 w3 ho4 hb hg_ hnew_; clear hg_ hnew_; (first | rw [← Ny502.out] at ho4 | (simp only [Int.reduceToNat] at ho4; rw [← Ny502.out] at ho4)); have HO504 := am (Kd.R_lower ho4 (below_size pB)); replace BK501 := am (pkb BK501.out hb); replace HB := am (below_step pB hb); clear hb ho4))
 go_loopg [3, 4] k (fun kq v3 v4 w' => ∃ (x3_1 : List Int) (x4_1 : Int), v4 = .int .i64 x4_1 ∧ Aside0 (minstrelref19_numbers.l0 kq x3_1 x4_1 a0_0 a0_1 a0_2 l0_3 = some r) ∧ Aside0 (kq ≤ k) ∧ Aside0 (Kd.R (Kd.int .i64) 3 w' w.heap.size (fun _ => True) v3 x3_1) ∧ Aside0 (w'.heap[gb501]? = some (.cells #[.int .i64 a0_0, .int .u64 a0_1, .string a0_2, (.slice A0_3 l0_3.length c0_3)] 26 (0, 0))) ∧ Aside0 (Below w.heap.size w w'))
 case atStart => exact ⟨(y502), (0), (by first | rfl | (simp; done) | (simp [*]; done)), H', ⟨Nat.le_refl _⟩, ⟨by (with_reducible repeat (first | apply Kd.R_alloc | apply Kd.R_drewN | apply Kd.R_drew)); exact HO504.out⟩, ⟨by (with_reducible repeat (first | refine blk_drewN ?_ _ | refine blk_drew ?_ | refine blk_alloc ?_ _)); exact BK501.out⟩, ⟨pB⟩⟩
 case round =>
  clear H'
  try clear p2
  try clear c4
  obtain ⟨x3_1, x4_1, rfl, HA, HK1, HO_3, BK501, HB⟩ := hrel
  cases gk with
  | zero => exact absurd HA.out (by simp [minstrelref19_numbers.l0])
  | succ k1 =>
   have H := HA.out
   clear HA
   simp only [minstrelref19_numbers.l0] at H
   have HC5 := am H
   clear H
   go_upto_region 3 with (fail)
   go_cut [16] (fun v16 wc => ∃ (kq : Nat) (x16_4 : Bool), v16 = .bool x16_4 ∧ Aside0 (minstrelref19_numbers.j1 kq x3_1 x4_1 x16_4 a0_0 a0_1 a0_2 l0_3 = some r) ∧ Aside0 (kq ≤ k1) ∧ Aside0 (Kd.R (Kd.int .i64) 3 wc w.heap.size (fun _ => True) u3 x3_1) ∧ Aside0 (wc.heap[gb501]? = some (.cells #[.int .i64 a0_0, .int .u64 a0_1, .string a0_2, (.slice A0_3 l0_3.length c0_3)] 26 (0, 0))) ∧ Aside0 (Below w.heap.size w wc))
   case first =>
    have H := HC5.out
    clear HC5
    by_cases c6 : a0_0 = 2
    ·rw [if_pos c6] at H
     have c6b0 : (a0_0 == 2) = true := beq_iff_eq.mpr c6
     have c6b1 : (a0_0 != 2) = false := bne_eq_false_iff_eq.mpr c6
     clear c6
     (first | rw [c6b0] | (simp only [i64_w, i32_w]; rw [c6b0]) | rw [c6b1] | (simp only [i64_w, i32_w]; rw [c6b1]) | skip)
     have H' := am H
     clear H
     have q7 := cf4 BK501.out
     go_wp2
     go_meet
     case rel => exact ⟨_, (decide (x4_1 < (l0_3.length : Int))), (by first | rfl | (simp; done) | (simp [*]; done)), H', ⟨by have := HK1.out; first | omega | exact Nat.le_refl _⟩, ⟨by (with_reducible repeat (first | apply Kd.R_alloc | apply Kd.R_drewN | apply Kd.R_drew)); exact HO_3.out⟩, ⟨by (with_reducible repeat (first | refine blk_drewN ?_ _ | refine blk_drew ?_ | refine blk_alloc ?_ _)); exact BK501.out⟩, ⟨pB⟩⟩
    ·rw [if_neg c6] at H
     have c6b0 : (a0_0 == 2) = false := beq_eq_false_iff_ne.mpr c6
     have c6b1 : (a0_0 != 2) = true := bne_iff_ne.mpr c6
     (first | rw [c6b0] | (simp only [i64_w, i32_w]; rw [c6b0]) | rw [c6b1] | (simp only [i64_w, i32_w]; rw [c6b1]) | skip)
     have H' := am H
     clear H
     have q8 := cf4 BK501.out
     go_wp2
     go_meet
     case rel => exact ⟨_, (false), (by first | rfl | (simp; done) | (simp [*]; done)), H', ⟨by have := HK1.out; first | omega | exact Nat.le_refl _⟩, ⟨by (with_reducible repeat (first | apply Kd.R_alloc | apply Kd.R_drewN | apply Kd.R_drew)); exact HO_3.out⟩, ⟨by (with_reducible repeat (first | refine blk_drewN ?_ _ | refine blk_drew ?_ | refine blk_alloc ?_ _)); exact BK501.out⟩, ⟨pB⟩⟩
   case rest =>
    clear HC5
    try clear p2
    try clear c4
    try clear c6
    try clear c6b0
    try clear c6b1
    try clear q7 q8
    try clear p2
    obtain ⟨kq, x16_4, rfl, HA, HJ4, HO_3, BK501, HB⟩ := hcut
    cases kq with
    | zero => exact absurd HA.out (by simp [minstrelref19_numbers.j1])
    | succ kj4 =>
     have H := HA.out
     clear HA
     simp only [minstrelref19_numbers.j1] at H
     by_cases c9 : x16_4 = true
     ·subst c9
      rw [if_pos rfl] at H
      by_cases c10 : 0 ≤ x4_1
      ·rw [if_pos c10] at H
       have c10b0 : decide (0 ≤ x4_1) = true := decide_eq_true c10
       clear c10
       by_cases c11 : x4_1 < (l0_3.length : Int)
       ·rw [if_pos c11] at H
        have c11b0 : decide (x4_1 < (l0_3.length : Int)) = true := decide_eq_true c11
        clear c11
        by_cases c12 : ((rd_T26 l0_3 x4_1).f1) ≤ 64
        ·rw [if_pos c12] at H
         have c12b0 : decide (((rd_T26 l0_3 x4_1).f1) ≤ 64) = true := decide_eq_true c12
         clear c12
         by_cases c13 : x3_1.length < 17592186044416
         ·rw [if_pos c13] at H
          have LMc13 := am c13
          clear c13
          obtain ⟨y507, hy507⟩ : ∃ y_ : List Int, y_ = (x3_1 ++ [wrap64 ((rd_T26 l0_3 x4_1).f1)]) := ⟨_, rfl⟩
          replace H : (minstrelref19_numbers.l0 kj4 y507 (wrap64 (x4_1 + 1)) a0_0 a0_1 a0_2 l0_3) = some r := by first | (rw [hy507]; with_reducible exact H) | (have H2_ := (Option.bind_some _ _).symm.trans H; rw [hy507]; with_reducible exact H2_) | (have H2_ := (Option.bind_some _ _).symm.trans H; with_reducible exact H2_) | with_reducible exact H | (rw [hy507]; exact H) | exact H
          have Ny507 := am hy507
          clear hy507
          have H' := am H
          clear H
          have q14 := cf4 BK501.out
          have p505 : 0 ≤ (x4_1 : Int) := pD
          have q505 : x4_1 < (l0_3.length : Int) := pD
          obtain ⟨ad505, A505_3, c505_3, e505, hx505_0, hx505_1, hx505_2, hx505_3, hl505_3, hi505_3⟩ := at_T26 HR0_3.out x4_1 p505 q505
          cases e505
          replace hx505_0 := (HB.out.cell (World.block_lt_of_cell? w _ hx505_0)).trans hx505_0
          replace hx505_1 := (HB.out.cell (World.block_lt_of_cell? w _ hx505_1)).trans hx505_1
          replace hx505_2 := (HB.out.cell (World.block_lt_of_cell? w _ hx505_2)).trans hx505_2
          replace hx505_3 := (HB.out.cell (World.block_lt_of_cell? w _ hx505_3)).trans hx505_3
          have HR505_3 := am hi505_3
          have HC505_3 := am hl505_3
          clear hi505_3 hl505_3
          replace p505 := eq_true p505
          replace q505 := eq_true q505
          have p506 : 0 ≤ (x4_1 : Int) := pD
          have q506 : x4_1 < (l0_3.length : Int) := pD
          obtain ⟨ad506, A506_3, c506_3, e506, hx506_0, hx506_1, hx506_2, hx506_3, hl506_3, hi506_3⟩ := at_T26 HR0_3.out x4_1 p506 q506
          obtain rfl : ad505 = ad506 := (by injection e506)
          replace hx506_0 := (HB.out.cell (World.block_lt_of_cell? w _ hx506_0)).trans hx506_0
          replace hx506_1 := (HB.out.cell (World.block_lt_of_cell? w _ hx506_1)).trans hx506_1
          replace hx506_2 := (HB.out.cell (World.block_lt_of_cell? w _ hx506_2)).trans hx506_2
          replace hx506_3 := (HB.out.cell (World.block_lt_of_cell? w _ hx506_3)).trans hx506_3
          have HR506_3 := am hi506_3
          have HC506_3 := am hl506_3
          clear hi506_3 hl506_3
          replace p506 := eq_true p506
          replace q506 := eq_true q506
          have ea_ := Option.some.inj (hx505_3.symm.trans hx506_3)
          injection ea_ with ea_ en_ ec_
          subst ea_
          subst ec_
          clear en_
          go_wp2_with (first | ((with_reducible refine gate_builtin (b := .append) (xs := #[.tmp 33, .tmp 35]) rfl ?_); (try (refine gate_guard (by rfl) ?_; dsimp only)); at_builtin; refine Kd.R_append (Kd.int .i64) (w0 := w) w.heap.size rfl (.tmp 33) (.tmp 35) 23 3 (.int .i64 0) 8 rfl Tryd.underlying23 info3 rfl (by decide) (by omega) u3 x3_1 (wrap64 ((rd_T26 l0_3 x4_1).f1)) [.int .i64 (wrap64 ((rd_T26 l0_3 x4_1).f1))] (fun _ => True) (fun _ => False) rfl rfl ?aP (fun _ hk => hk.elim) ?aF ?aO ?aB ?aS ?aL ?_; (case aP => exact rfl); (case aB => exact pB); (case aF => exact (fun _ _ => trivial)); (case aO => exact (pR HO_3.out)); (case aS => exact (below_size pB)); (case aL => have := LMc13.out; omega); intro v508 w15 ho hb hg hat; rw [← Ny507.out] at ho; replace BK501 := am (blk_grown (g := gb501) (o := .cells #[.int .i64 a0_0, .int .u64 a0_1, .string a0_2, .slice (some ad505) l0_3.length c0_3] 26 (0, 0)) (pK BK501.out) hg (pX HO_3.out BK501.out)); replace HB := am (hb); have HO509 := am (ho); clear HO_3; clear ho hb hg hat))
          go_roundg kj4
          case measure => have := HK1.out; have := HJ4.out; omega
          case rel => exact ⟨(y507), (wrap64 (x4_1 + 1)), (by first | rfl | (simp; done) | (simp [*]; done)), H', ⟨by have := HK1.out; have := HJ4.out; omega⟩, ⟨by (with_reducible repeat (first | apply Kd.R_alloc | apply Kd.R_drewN | apply Kd.R_drew)); exact HO509.out⟩, ⟨by (with_reducible repeat (first | refine blk_drewN ?_ _ | refine blk_drew ?_ | refine blk_alloc ?_ _)); exact BK501.out⟩, ⟨pB⟩⟩
         ·rw [if_neg c13] at H
          exact absurd H (by simp)
        ·rw [if_neg c12] at H
         have c12b0 : decide (((rd_T26 l0_3 x4_1).f1) ≤ 64) = false := decide_eq_false c12
         clear c12
         by_cases c16 : x3_1.length < 17592186044416
         ·rw [if_pos c16] at H
          have LMc16 := am c16
          clear c16
          obtain ⟨y510, hy510⟩ : ∃ y_ : List Int, y_ = (x3_1 ++ [0]) := ⟨_, rfl⟩
          replace H : (minstrelref19_numbers.l0 kj4 y510 (wrap64 (x4_1 + 1)) a0_0 a0_1 a0_2 l0_3) = some r := by first | (rw [hy510]; with_reducible exact H) | (have H2_ := (Option.bind_some _ _).symm.trans H; rw [hy510]; with_reducible exact H2_) | (have H2_ := (Option.bind_some _ _).symm.trans H; with_reducible exact H2_) | with_reducible exact H | (rw [hy510]; exact H) | exact H
          have Ny510 := am hy510
          clear hy510
          have H' := am H
          clear H
          have q17 := cf4 BK501.out
          have p505 : 0 ≤ (x4_1 : Int) := pD
          have q505 : x4_1 < (l0_3.length : Int) := pD
          obtain ⟨ad505, A505_3, c505_3, e505, hx505_0, hx505_1, hx505_2, hx505_3, hl505_3, hi505_3⟩ := at_T26 HR0_3.out x4_1 p505 q505
          cases e505
          replace hx505_0 := (HB.out.cell (World.block_lt_of_cell? w _ hx505_0)).trans hx505_0
          replace hx505_1 := (HB.out.cell (World.block_lt_of_cell? w _ hx505_1)).trans hx505_1
          replace hx505_2 := (HB.out.cell (World.block_lt_of_cell? w _ hx505_2)).trans hx505_2
          replace hx505_3 := (HB.out.cell (World.block_lt_of_cell? w _ hx505_3)).trans hx505_3
          have HR505_3 := am hi505_3
          have HC505_3 := am hl505_3
          clear hi505_3 hl505_3
          replace p505 := eq_true p505
          replace q505 := eq_true q505
          go_wp2_with (first | ((with_reducible refine gate_builtin (b := .append) (xs := #[.tmp 33, .tmp 35]) rfl ?_); (try (refine gate_guard (by rfl) ?_; dsimp only)); at_builtin; refine Kd.R_append (Kd.int .i64) (w0 := w) w.heap.size rfl (.tmp 33) (.tmp 35) 23 3 (.int .i64 0) 8 rfl Tryd.underlying23 info3 rfl (by decide) (by omega) u3 x3_1 0 [.int .i64 0] (fun _ => True) (fun _ => False) rfl rfl ?aP (fun _ hk => hk.elim) ?aF ?aO ?aB ?aS ?aL ?_; (case aP => exact rfl); (case aB => exact pB); (case aF => exact (fun _ _ => trivial)); (case aO => exact (pR HO_3.out)); (case aS => exact (below_size pB)); (case aL => have := LMc16.out; omega); intro v511 w18 ho hb hg hat; rw [← Ny510.out] at ho; replace BK501 := am (blk_grown (g := gb501) (o := .cells #[.int .i64 a0_0, .int .u64 a0_1, .string a0_2, .slice (some ad505) l0_3.length c0_3] 26 (0, 0)) (pK BK501.out) hg (pX HO_3.out BK501.out)); replace HB := am (hb); have HO512 := am (ho); clear HO_3; clear ho hb hg hat))
          go_roundg kj4
          case measure => have := HK1.out; have := HJ4.out; omega
          case rel => exact ⟨(y510), (wrap64 (x4_1 + 1)), (by first | rfl | (simp; done) | (simp [*]; done)), H', ⟨by have := HK1.out; have := HJ4.out; omega⟩, ⟨by (with_reducible repeat (first | apply Kd.R_alloc | apply Kd.R_drewN | apply Kd.R_drew)); exact HO512.out⟩, ⟨by (with_reducible repeat (first | refine blk_drewN ?_ _ | refine blk_drew ?_ | refine blk_alloc ?_ _)); exact BK501.out⟩, ⟨pB⟩⟩
         ·rw [if_neg c16] at H
          exact absurd H (by simp)
       ·rw [if_neg c11] at H
        exact absurd H (by simp)
      ·rw [if_neg c10] at H
       exact absurd H (by simp)
     ·replace c9 := Bool.eq_false_iff.mpr c9
      subst c9
      rw [if_neg (show ¬ (false = true) by decide)] at H
      obtain rfl := Option.some.inj H
      go_wp2
      go_ret
      exact ⟨_, pE, by (with_reducible repeat (first | apply Kd.R_alloc | apply Kd.R_drewN | apply Kd.R_drew)); exact HO_3.out, pB⟩
end Go.Proofs.YtlkaffbgekbcfaaDoor.Pr
end
section
namespace Go.Proofs.YtlkaffbgekbcfaaDoor.Pr
open Go.RowKit Go.Proofs.YtlkaffbgekbcfaaDoorW.PrintWords Go.Proofs.YtlkaffbgekbcfaaDoorW.PrintLast Go.Proofs.YtlkaffbgekbcfaaDoorW.PrintMore
attribute [local go_sem] max2_int min2_int max_two min_two max_three min_three max_four min_four
mutual
def minstrelref19_FromEntry.j0 : Nat → Int → Int → ByteArray → List (S26) → Int → Int → ByteArray → Option (Int × Int × ByteArray × List Int × Int)
 | 0, _, _, _, _, _, _, _ => none
 | k + 1, x791000, x791001, x791002, x791003, x799000, x799001, x799002 => if x799001 = 1 then ((minstrelref19_part.f x791000 x791001 x791002 x791003 2).bind fun bt805 => (minstrelref19_FromEntry.j1 k x791000 x791001 x791002 x791003 x799000 x799001 bt805.2.2.1)) else (minstrelref19_FromEntry.j1 k x791000 x791001 x791002 x791003 x799000 x799001 x799002)
def minstrelref19_FromEntry.j1 : Nat → Int → Int → ByteArray → List (S26) → Int → Int → ByteArray → Option (Int × Int × ByteArray × List Int × Int)
 | 0, _, _, _, _, _, _, _ => none
 | k + 1, x791000, x791001, x791002, x791003, x799000, x799001, x799002 => if x799001 = 2 then ((minstrelref19_part.f x791000 x791001 x791002 x791003 2).bind fun bt811 => ((minstrelref19_numbers.f k bt811.1 bt811.2.1 bt811.2.2.1 bt811.2.2.2).bind fun t817 => (minstrelref19_FromEntry.j2 k x791000 x791001 x791002 x791003 x799000 x799001 x799002 t817))) else (minstrelref19_FromEntry.j2 k x791000 x791001 x791002 x791003 x799000 x799001 x799002 ([] : List Int))
def minstrelref19_FromEntry.j2 : Nat → Int → Int → ByteArray → List (S26) → Int → Int → ByteArray → List Int → Option (Int × Int × ByteArray × List Int × Int)
 | 0, _, _, _, _, _, _, _, _ => none
 | k + 1, x791000, x791001, x791002, x791003, x799000, x799001, x799002, x799003 => (minstrelref19_EntryCell.f k x799000 x799001 x799002 x799003).bind fun bt820 => (if bt820.2.2.2.2 = 0 then ((minstrelref07_Same.f k bt820.1 bt820.2.1 bt820.2.2.1 bt820.2.2.2.1 x791000 x791001 x791002 x791003).bind fun t828 => (if t828 = true then (some (x799000, x799001, x799002, x799003, 0)) else (some (0, 0, (⟨#[]⟩ : ByteArray), ([] : List Int), 4)))) else (some (0, 0, (⟨#[]⟩ : ByteArray), ([] : List Int), 4)))
end
def minstrelref19_FromEntry.f (k : Nat) (a0_0 : Int) (a0_1 : Int) (a0_2 : ByteArray) (l0_3 : List (S26)) : Option (Int × Int × ByteArray × List Int × Int) := (minstrelref19_part.f a0_0 a0_1 a0_2 l0_3 0).bind fun bt792 => ((minstrelref19_part.f a0_0 a0_1 a0_2 l0_3 1).bind fun bt799 => (if bt799.2.1 ≤ 2 then (minstrelref19_FromEntry.j0 k a0_0 a0_1 a0_2 l0_3 bt792.2.1 (wrap64 (bt799.2.1)) (⟨#[]⟩ : ByteArray)) else (minstrelref19_FromEntry.j0 k a0_0 a0_1 a0_2 l0_3 bt792.2.1 9 (⟨#[]⟩ : ByteArray))))
theorem fld26_1 (a b : Int) (c : ByteArray) (d : Value) (w : World) : (Instr.field 26 (.agg #[.int .i64 a, .int .u64 b, .string c, d]) 1).run Tryd.prog w = .ok (.int .u64 b) w := by kernel_rfl
theorem fld26_2 (a b : Int) (c : ByteArray) (d : Value) (w : World) : (Instr.field 26 (.agg #[.int .i64 a, .int .u64 b, .string c, d]) 2).run Tryd.prog w = .ok (.string c) w := by kernel_rfl
set_option maxHeartbeats 8000000 in
set_option maxRecDepth 100000 in
theorem minstrelref19_FromEntry.calls (k : Nat) (a0_0 : Int) (a0_1 : Int) (a0_2 : ByteArray) (A0_3 : Option Addr) (c0_3 : Nat) (l0_3 : List (S26)) (r1 : Int) (r2 : Int) (r3 : ByteArray) (r4 : List Int) (r5 : Int) (w : World) (hr0_3 : Kd.C k26 w A0_3 l0_3.length l0_3) (hc0_3 : l0_3.length ≤ c0_3) (h : minstrelref19_FromEntry.f k a0_0 a0_1 a0_2 l0_3 = some (r1, r2, r3, r4, r5)) :
  Calls Tryd.prog 22 #[.agg #[.int .i64 a0_0, .int .u64 a0_1, .string a0_2, .slice A0_3 l0_3.length c0_3]] w fun e w' => ∃ v3_ : Value, e = .returned (.tuple #[.agg #[.int .u64 r1, .int .i64 r2, .string r3, v3_], .int .i64 r5]) ∧ Kd.R (Kd.int .i64) 3 w' w.heap.size (fun _ => True) v3_ r4 ∧ Below w.heap.size w w' := by
 have hu26 := Tryd.underlying26
 have hu46 := Tryd.underlying46
 have HR0_3 := am hr0_3
 have HC0_3 := am hc0_3
 clear hr0_3 hc0_3
 have HB := am (Below.refl w.heap.size w)
 have H : ((minstrelref19_part.f a0_0 a0_1 a0_2 l0_3 0).bind fun bt792 => ((minstrelref19_part.f a0_0 a0_1 a0_2 l0_3 1).bind fun bt799 => (if bt799.2.1 ≤ 2 then (minstrelref19_FromEntry.j0 k a0_0 a0_1 a0_2 l0_3 bt792.2.1 (wrap64 (bt799.2.1)) (⟨#[]⟩ : ByteArray)) else (minstrelref19_FromEntry.j0 k a0_0 a0_1 a0_2 l0_3 bt792.2.1 9 (⟨#[]⟩ : ByteArray))))) = some (r1, r2, r3, r4, r5) := h
 clear h
 replace H := Option.bind_eq_some_iff.mp H
 obtain ⟨⟨t792, t793, t794, t795⟩, A20, H⟩ := H
 try dsimp only at H
 have A2 := am A20
 clear A20
 replace H := Option.bind_eq_some_iff.mp H
 obtain ⟨⟨t799, t800, t801, t802⟩, A30, H⟩ := H
 try dsimp only at H
 have A3 := am A30
 clear A30
 have HC4 := am H
 clear H
 have kf1 := fld26_1
 have kf2 := fld26_2
 go_enter Tryd.func22, Tryd.ntmps22
 go_upto_if 16 with (first | ((with_reducible refine gate_dst (N := 1) rfl ?_); refine box_event ?hg (N := 1) ?hd (cs := #[.int .i64 a0_0, .int .u64 a0_1, .string a0_2, .slice A0_3 l0_3.length c0_3]) (t := 26) ?hr ?_; (case hd => rfl); (case hg => rfl); (case hr => first | (go_simp; done) | (go_simp; rfl)); intro gb790 hg w5 hbox hb; have BK790 := am (hbox); have GW790 := am ((by rw [hg]; exact (below_size pB) : w.heap.size ≤ gb790)); have GE790 := am ((by rw [hg]; exact (below_size pB) : w.heap.size ≤ gb790)); replace HB := am (below_step pB hb); clear hb hbox hg) | ((with_reducible refine gate_dst (N := 2) rfl ?_); refine box_event ?hg (N := 2) ?hd (cs := #[.int .u64 0, .int .i64 0, .string (⟨#[]⟩ : ByteArray), .slice none 0 0]) (t := 46) ?hr ?_; (case hd => rfl); (case hg => rfl); (case hr => first | (go_simp; done) | (go_simp; rfl)); intro gb791 hg w6 hbox hb; have BK791 := am (hbox); have GW791 := am ((by rw [hg]; exact (below_size pB) : w.heap.size ≤ gb791)); have GE791 := am ((by rw [hg]; exact (below_size pB) : w.heap.size ≤ gb791)); have NB790_791 := am ((by rw [hg]; exact Nat.ne_of_lt (pkl BK790.out) : gb790 ≠ gb791)); have NB791_790 := am ((by rw [hg]; exact Nat.ne_of_gt (pkl BK790.out) : gb791 ≠ gb790)); replace BK790 := am (pkb BK790.out hb); replace HB := am (below_step pB hb); clear hb hbox hg; have hnb7 := NB790_791.out; have hnc7 := NB791_790.out; have q8 := cf4 BK790.out) | ((with_reducible refine gate_callee (f := 41) rfl ?_); refine goesL_ (some 9) rfl rfl Tryd.func41 (by kernel_rfl) rfl #[.agg #[.int .i64 a0_0, .int .u64 a0_1, .string a0_2, .slice A0_3 l0_3.length c0_3], .int .i64 0] rfl pM ?_; (with_reducible refine (minstrelref19_part.calls a0_0 a0_1 a0_2 (fun k_ => k_ < w.heap.size) _ _ l0_3 0 t792 t793 t794 t795 _ ?side1 A2.out).mono ?_); (case side1 => exact Kd.V_mk HC0_3.out (Kd.F_below (Kd.C_F k26_heap HR0_3.out) pB)); rintro e w9 ⟨v796, rfl, ho0, hb⟩; refine ⟨_, rfl, ?_⟩; have HO797 := am (Kd.V_lower (Kd.V_mono (ok' := fun k_ => k_ ≠ gb790 ∧ k_ ≠ gb791) ho0 (fun k_ hk_ => ⟨Or.elim hk_ (fun hs_ => fun e_ => Nat.not_le.2 hs_ (by rw [e_]; exact GW790.out)) (fun hn_ => (Kd.freshB (g := gb790) (o := .cells #[.int .i64 a0_0, .int .u64 a0_1, .string a0_2, .slice A0_3 l0_3.length c0_3] 26 (0, 0)) (pK BK790.out) k_ hn_)), Or.elim hk_ (fun hs_ => fun e_ => Nat.not_le.2 hs_ (by rw [e_]; exact GW791.out)) (fun hn_ => (Kd.freshB (g := gb791) (o := .cells #[.int .u64 0, .int .i64 0, .string (⟨#[]⟩ : ByteArray), .slice none 0 0] 46 (0, 0)) (pK BK791.out) k_ hn_))⟩)) (below_size pB)); replace BK790 := am (pkb BK790.out hb); replace BK791 := am (pkb BK791.out hb); replace HB := am (below_step pB hb); (try clear hb); (try clear hb2); (try clear hk); (try clear hi); (try clear ho0)) | ((with_reducible refine gate_dst (N := 4) rfl ?_); refine box_event ?hg (N := 4) ?hd (cs := #[.int .u64 0, .int .i64 0, .string (⟨#[]⟩ : ByteArray), .slice none 0 0]) (t := 46) ?hr ?_; (case hd => rfl); (case hg => rfl); (case hr => first | (go_simp; done) | (go_simp; rfl)); intro gb798 hg w10 hbox hb; replace HO797 := am (Kd.V_below (Kd.V_elderB (pV HO797.out) gb798 (Nat.le_of_eq hg.symm)) hb); have BK798 := am (hbox); have GW798 := am ((by rw [hg]; exact (below_size pB) : w.heap.size ≤ gb798)); have GE798 := am ((by rw [hg]; exact (below_size pB) : w.heap.size ≤ gb798)); have NB790_798 := am ((by rw [hg]; exact Nat.ne_of_lt (pkl BK790.out) : gb790 ≠ gb798)); have NB798_790 := am ((by rw [hg]; exact Nat.ne_of_gt (pkl BK790.out) : gb798 ≠ gb790)); replace BK790 := am (pkb BK790.out hb); have NB791_798 := am ((by rw [hg]; exact Nat.ne_of_lt (pkl BK791.out) : gb791 ≠ gb798)); have NB798_791 := am ((by rw [hg]; exact Nat.ne_of_gt (pkl BK791.out) : gb798 ≠ gb791)); replace BK791 := am (pkb BK791.out hb); replace HB := am (below_step pB hb); clear hb hbox hg; have hnb11 := NB798_790.out; have hnc11 := NB790_798.out; have hnb12 := NB798_791.out; have hnc12 := NB791_798.out; have q13 := cf4 BK798.out) | ((with_reducible refine gate_store (t := 46) (p := 4) rfl ?_); refine store_event (t := 46) (p := 4) (v := ?vo_w14) (w1 := ((((w10.setCell ⟨gb798, 0, none⟩ (.int .u64 t793)).setCell ⟨gb798, 1, none⟩ (.int .i64 9)).setCell ⟨gb798, 2, none⟩ (.string (⟨#[]⟩ : ByteArray))).setCell ⟨gb798, 3, none⟩ (.slice none 0 0))) ?hg ?ho ?hn ?hr ?_; (case ho => rfl); (case hg => rfl); (case hn => rfl); (case hr => first | (go_simp; done) | (go_simp; rfl)); intro w14 hw; have n0_ : Aside0 (Kd.V k26 26 w14 w.heap.size (fun k_ => k_ ≠ gb790 ∧ k_ ≠ gb791 ∧ k_ ≠ gb798) v796 t795) := ⟨(by rw [hw]; exact (by (with_reducible repeat (first | apply Kd.V_alloc | apply Kd.V_drewN | apply Kd.V_drew)); exact Kd.V_mono (Kd.V_far (p := ⟨gb798, 3, none⟩) (Kd.V_far (p := ⟨gb798, 2, none⟩) (Kd.V_far (p := ⟨gb798, 1, none⟩) (Kd.V_far (p := ⟨gb798, 0, none⟩) (Kd.V_mono HO797.out (fun k_ hk => (⟨hk, hk.2⟩ : _ ∧ k_ ≠ gb798))) (fun _ hk => hk.2) (.int .u64 t793)) (fun _ hk => hk.2) (.int .i64 9)) (fun _ hk => hk.2) (.string (⟨#[]⟩ : ByteArray))) (fun _ hk => hk.2) (.slice none 0 0)) (fun _ hk => ⟨hk.1.1.1, ⟨hk.1.1.2, hk.1.2⟩⟩)))⟩; have n1_ : Aside0 (w14.heap[gb790]? = some (.cells #[.int .i64 a0_0, .int .u64 a0_1, .string a0_2, .slice A0_3 l0_3.length c0_3] 26 (0, 0))) := ⟨(by rw [hw]; exact (by (with_reducible repeat (first | refine blk_drewN ?_ _ | refine blk_drew ?_ | refine blk_alloc ?_ _)); refine blk_far ?_ NB790_798.out _; (with_reducible repeat (first | refine blk_drewN ?_ _ | refine blk_drew ?_ | refine blk_alloc ?_ _)); refine blk_far ?_ NB790_798.out _; (with_reducible repeat (first | refine blk_drewN ?_ _ | refine blk_drew ?_ | refine blk_alloc ?_ _)); refine blk_far ?_ NB790_798.out _; (with_reducible repeat (first | refine blk_drewN ?_ _ | refine blk_drew ?_ | refine blk_alloc ?_ _)); refine blk_far ?_ NB790_798.out _; (with_reducible repeat (first | refine blk_drewN ?_ _ | refine blk_drew ?_ | refine blk_alloc ?_ _)); exact BK790.out))⟩; have n2_ : Aside0 (w14.heap[gb791]? = some (.cells #[.int .u64 0, .int .i64 0, .string (⟨#[]⟩ : ByteArray), .slice none 0 0] 46 (0, 0))) := ⟨(by rw [hw]; exact (by (with_reducible repeat (first | refine blk_drewN ?_ _ | refine blk_drew ?_ | refine blk_alloc ?_ _)); refine blk_far ?_ NB791_798.out _; (with_reducible repeat (first | refine blk_drewN ?_ _ | refine blk_drew ?_ | refine blk_alloc ?_ _)); refine blk_far ?_ NB791_798.out _; (with_reducible repeat (first | refine blk_drewN ?_ _ | refine blk_drew ?_ | refine blk_alloc ?_ _)); refine blk_far ?_ NB791_798.out _; (with_reducible repeat (first | refine blk_drewN ?_ _ | refine blk_drew ?_ | refine blk_alloc ?_ _)); refine blk_far ?_ NB791_798.out _; (with_reducible repeat (first | refine blk_drewN ?_ _ | refine blk_drew ?_ | refine blk_alloc ?_ _)); exact BK791.out))⟩; have n3_ : Aside0 (w14.heap[gb798]? = some (.cells #[.int .u64 t793, .int .i64 9, .string (⟨#[]⟩ : ByteArray), .slice none 0 0] 46 (0, 0))) := ⟨(by rw [hw]; exact (by (iterate 2 ((with_reducible repeat (first | refine blk_drewN ?_ _ | refine blk_drew ?_ | refine blk_alloc ?_ _)); refine blk_put (cs := #[.int .u64 t793, .int .i64 9, .string (⟨#[]⟩ : ByteArray), .slice none 0 0]) ?_ _ _ rfl)); (with_reducible repeat (first | refine blk_drewN ?_ _ | refine blk_drew ?_ | refine blk_alloc ?_ _)); refine blk_put (cs := #[.int .u64 t793, .int .i64 0, .string (⟨#[]⟩ : ByteArray), .slice none 0 0]) ?_ 1 _ rfl; (with_reducible repeat (first | refine blk_drewN ?_ _ | refine blk_drew ?_ | refine blk_alloc ?_ _)); refine blk_put (cs := #[.int .u64 0, .int .i64 0, .string (⟨#[]⟩ : ByteArray), .slice none 0 0]) ?_ 0 _ rfl; (with_reducible repeat (first | refine blk_drewN ?_ _ | refine blk_drew ?_ | refine blk_alloc ?_ _)); exact BK798.out))⟩; have n4_ : Aside0 (Below w.heap.size w w14) := ⟨(by rw [hw]; exact pB)⟩; clear hw; clear HO797; clear BK790; clear BK791; clear BK798; clear HB; have HO797 := n0_; have BK790 := n1_; have BK791 := n2_; have BK798 := n3_; have HB := n4_; clear n0_ n1_ n2_ n3_ n4_; have q15 := cf4 BK790.out) | ((with_reducible refine gate_callee (f := 41) rfl ?_); refine goesL_ (some 13) rfl rfl Tryd.func41 (by kernel_rfl) rfl #[.agg #[.int .i64 a0_0, .int .u64 a0_1, .string a0_2, .slice A0_3 l0_3.length c0_3], .int .i64 1] rfl pM ?_; (with_reducible refine (minstrelref19_part.calls a0_0 a0_1 a0_2 (fun k_ => k_ < w.heap.size) _ _ l0_3 1 t799 t800 t801 t802 _ ?side1 A3.out).mono ?_); (case side1 => exact Kd.V_mk HC0_3.out (Kd.F_below (Kd.C_F k26_heap HR0_3.out) pB)); rintro e w16 ⟨v803, rfl, ho0, hb⟩; refine ⟨_, rfl, ?_⟩; replace HO797 := am (Kd.V_below (pV HO797.out) hb); have HO804 := am (Kd.V_lower (Kd.V_mono (ok' := fun k_ => k_ ≠ gb790 ∧ k_ ≠ gb791 ∧ k_ ≠ gb798) ho0 (fun k_ hk_ => ⟨Or.elim hk_ (fun hs_ => fun e_ => Nat.not_le.2 hs_ (by rw [e_]; exact GW790.out)) (fun hn_ => (Kd.freshB (g := gb790) (o := .cells #[.int .i64 a0_0, .int .u64 a0_1, .string a0_2, .slice A0_3 l0_3.length c0_3] 26 (0, 0)) (pK BK790.out) k_ hn_)), Or.elim hk_ (fun hs_ => fun e_ => Nat.not_le.2 hs_ (by rw [e_]; exact GW791.out)) (fun hn_ => (Kd.freshB (g := gb791) (o := .cells #[.int .u64 0, .int .i64 0, .string (⟨#[]⟩ : ByteArray), .slice none 0 0] 46 (0, 0)) (pK BK791.out) k_ hn_)), Or.elim hk_ (fun hs_ => fun e_ => Nat.not_le.2 hs_ (by rw [e_]; exact GW798.out)) (fun hn_ => (Kd.freshB (g := gb798) (o := .cells #[.int .u64 t793, .int .i64 9, .string (⟨#[]⟩ : ByteArray), .slice none 0 0] 46 (0, 0)) (pK BK798.out) k_ hn_))⟩)) (below_size pB)); replace BK790 := am (pkb BK790.out hb); replace BK791 := am (pkb BK791.out hb); replace BK798 := am (pkb BK798.out hb); replace HB := am (below_step pB hb); (try clear hb); (try clear hb2); (try clear hk); (try clear hi); (try clear ho0)))
 (try simp only [Act.put, List.setIfInBounds_toArray, List.set_cons_zero, List.set_cons_succ])
 go_cut [] (fun wc => ∃ (kq : Nat) (x799001_3 : Int), Aside0 (minstrelref19_FromEntry.j0 kq a0_0 a0_1 a0_2 l0_3 t793 x799001_3 (⟨#[]⟩ : ByteArray) = some (r1, r2, r3, r4, r5)) ∧ Aside0 (kq ≤ k) ∧ Aside0 (wc.heap[gb790]? = some (.cells #[.int .i64 a0_0, .int .u64 a0_1, .string a0_2, (.slice A0_3 l0_3.length c0_3)] 26 (0, 0))) ∧ Aside0 (wc.heap[gb791]? = some (.cells #[.int .u64 0, .int .i64 0, .string (⟨#[]⟩ : ByteArray), (.slice none 0 0)] 46 (0, 0))) ∧ Aside0 (wc.heap[gb798]? = some (.cells #[.int .u64 t793, .int .i64 x799001_3, .string (⟨#[]⟩ : ByteArray), (.slice none 0 0)] 46 (0, 0))) ∧ Aside0 (Below w.heap.size w wc))
 case first =>
  have H := HC4.out
  clear HC4
  by_cases c17 : t800 ≤ 2
  ·rw [if_pos c17] at H
   have c17b0 : decide (t800 ≤ 2) = true := decide_eq_true c17
   clear c17
   (first | rw [c17b0] | (simp only [i64_w, i32_w]; rw [c17b0]) | rw [c17b1] | (simp only [i64_w, i32_w]; rw [c17b1]) | skip)
   have H' := am H
   clear H
   have hnb18 := NB798_790.out
   have hnc18 := NB790_798.out
   have hnb19 := NB798_791.out
   have hnc19 := NB791_798.out
   have q20 := cf4 BK798.out
   go_wp2
   go_meet
   case rel => exact ⟨_, (wrap64 (t800)), H', ⟨by first | omega | exact Nat.le_refl _⟩, ⟨by (with_reducible repeat (first | refine blk_drewN ?_ _ | refine blk_drew ?_ | refine blk_alloc ?_ _)); refine blk_far ?_ NB790_798.out _; (with_reducible repeat (first | refine blk_drewN ?_ _ | refine blk_drew ?_ | refine blk_alloc ?_ _)); exact BK790.out⟩, ⟨by (with_reducible repeat (first | refine blk_drewN ?_ _ | refine blk_drew ?_ | refine blk_alloc ?_ _)); refine blk_far ?_ NB791_798.out _; (with_reducible repeat (first | refine blk_drewN ?_ _ | refine blk_drew ?_ | refine blk_alloc ?_ _)); exact BK791.out⟩, ⟨by (with_reducible repeat (first | refine blk_drewN ?_ _ | refine blk_drew ?_ | refine blk_alloc ?_ _)); refine blk_put (cs := #[.int .u64 t793, .int .i64 9, .string (⟨#[]⟩ : ByteArray), .slice none 0 0]) ?_ 1 _ rfl; (with_reducible repeat (first | refine blk_drewN ?_ _ | refine blk_drew ?_ | refine blk_alloc ?_ _)); exact BK798.out⟩, ⟨pB⟩⟩
  ·rw [if_neg c17] at H
   have c17b0 : decide (t800 ≤ 2) = false := decide_eq_false c17
   clear c17
   (first | rw [c17b0] | (simp only [i64_w, i32_w]; rw [c17b0]) | rw [c17b1] | (simp only [i64_w, i32_w]; rw [c17b1]) | skip)
   have H' := am H
   clear H
   go_wp2
   go_meet
   case rel => exact ⟨_, (9), H', ⟨by first | omega | exact Nat.le_refl _⟩, ⟨by (with_reducible repeat (first | refine blk_drewN ?_ _ | refine blk_drew ?_ | refine blk_alloc ?_ _)); exact BK790.out⟩, ⟨by (with_reducible repeat (first | refine blk_drewN ?_ _ | refine blk_drew ?_ | refine blk_alloc ?_ _)); exact BK791.out⟩, ⟨by (with_reducible repeat (first | refine blk_drewN ?_ _ | refine blk_drew ?_ | refine blk_alloc ?_ _)); exact BK798.out⟩, ⟨pB⟩⟩
 case rest =>
  clear HC4
  try clear c1
  try clear c2
  try clear p2
  try clear c4
  try clear p6
  try clear c7
  try clear c11
  try clear c12
  try clear c17
  try clear c17b0
  try clear c17b1
  try clear c18
  try clear c19
  try clear q13 q15 q20 q8
  obtain ⟨kq, x799001_3, HA, HJ3, BK790, BK791, BK798, HB⟩ := hcut
  cases kq with
  | zero => exact absurd HA.out (by simp [minstrelref19_FromEntry.j0])
  | succ kj3 =>
   have H := HA.out
   clear HA
   simp only [minstrelref19_FromEntry.j0] at H
   have HC21 := am H
   clear H
   have hnb22 := NB798_790.out
   have hnc22 := NB790_798.out
   have hnb23 := NB798_791.out
   have hnc23 := NB791_798.out
   have q24 := cf4 BK798.out
   go_upto_if 22 with (fail)
   go_cut [] (fun wc => ∃ (kq : Nat) (x799002_20 : ByteArray), Aside0 (minstrelref19_FromEntry.j1 kq a0_0 a0_1 a0_2 l0_3 t793 x799001_3 x799002_20 = some (r1, r2, r3, r4, r5)) ∧ Aside0 (kq ≤ kj3) ∧ Aside0 (wc.heap[gb790]? = some (.cells #[.int .i64 a0_0, .int .u64 a0_1, .string a0_2, (.slice A0_3 l0_3.length c0_3)] 26 (0, 0))) ∧ Aside0 (wc.heap[gb791]? = some (.cells #[.int .u64 0, .int .i64 0, .string (⟨#[]⟩ : ByteArray), (.slice none 0 0)] 46 (0, 0))) ∧ Aside0 (wc.heap[gb798]? = some (.cells #[.int .u64 t793, .int .i64 x799001_3, .string x799002_20, (.slice none 0 0)] 46 (0, 0))) ∧ Aside0 (Below w.heap.size w wc))
   case first =>
    have H := HC21.out
    clear HC21
    by_cases c25 : x799001_3 = 1
    ·rw [if_pos c25] at H
     have c25b0 : (x799001_3 == 1) = true := beq_iff_eq.mpr c25
     have c25b1 : (x799001_3 != 1) = false := bne_eq_false_iff_eq.mpr c25
     clear c25
     (first | rw [c25b0] | (simp only [i64_w, i32_w]; rw [c25b0]) | rw [c25b1] | (simp only [i64_w, i32_w]; rw [c25b1]) | skip)
     replace H := Option.bind_eq_some_iff.mp H
     obtain ⟨⟨t805, t806, t807, t808⟩, A260, H⟩ := H
     try dsimp only at H
     have A26 := am A260
     clear A260
     have H' := am H
     clear H
     have hnb27 := NB790_791.out
     have hnc27 := NB791_790.out
     have hnb28 := NB790_798.out
     have hnc28 := NB798_790.out
     have q29 := cf4 BK790.out
     go_wp2_with (first | ((with_reducible refine gate_callee (f := 41) rfl ?_); refine goesL_ (some 24) rfl rfl Tryd.func41 (by kernel_rfl) rfl #[.agg #[.int .i64 a0_0, .int .u64 a0_1, .string a0_2, .slice A0_3 l0_3.length c0_3], .int .i64 2] rfl pM ?_; (with_reducible refine (minstrelref19_part.calls a0_0 a0_1 a0_2 (fun k_ => k_ < w.heap.size) _ _ l0_3 2 t805 t806 t807 t808 _ ?side1 A26.out).mono ?_); (case side1 => exact Kd.V_mk HC0_3.out (Kd.F_below (Kd.C_F k26_heap HR0_3.out) pB)); rintro e w30 ⟨v809, rfl, ho0, hb⟩; refine ⟨_, rfl, ?_⟩; have HO810 := am (Kd.V_lower (Kd.V_mono (ok' := fun k_ => k_ ≠ gb790 ∧ k_ ≠ gb791 ∧ k_ ≠ gb798) ho0 (fun k_ hk_ => ⟨Or.elim hk_ (fun hs_ => fun e_ => Nat.not_le.2 hs_ (by rw [e_]; exact GW790.out)) (fun hn_ => (Kd.freshB (g := gb790) (o := .cells #[.int .i64 a0_0, .int .u64 a0_1, .string a0_2, .slice A0_3 l0_3.length c0_3] 26 (0, 0)) (pK BK790.out) k_ hn_)), Or.elim hk_ (fun hs_ => fun e_ => Nat.not_le.2 hs_ (by rw [e_]; exact GW791.out)) (fun hn_ => (Kd.freshB (g := gb791) (o := .cells #[.int .u64 0, .int .i64 0, .string (⟨#[]⟩ : ByteArray), .slice none 0 0] 46 (0, 0)) (pK BK791.out) k_ hn_)), Or.elim hk_ (fun hs_ => fun e_ => Nat.not_le.2 hs_ (by rw [e_]; exact GW798.out)) (fun hn_ => (Kd.freshB (g := gb798) (o := .cells #[.int .u64 t793, .int .i64 x799001_3, .string (⟨#[]⟩ : ByteArray), .slice none 0 0] 46 (0, 0)) (pK BK798.out) k_ hn_))⟩)) (below_size pB)); replace BK790 := am (pkb BK790.out hb); replace BK791 := am (pkb BK791.out hb); replace BK798 := am (pkb BK798.out hb); replace HB := am (below_step pB hb); (try clear hb); (try clear hb2); (try clear hk); (try clear hi); (try clear ho0); have hnb31 := NB798_791.out; have hnc31 := NB791_798.out; have q32 := cf4 BK798.out))
     go_meet
     case rel => exact ⟨_, (t807), H', ⟨by have := HJ3.out; first | omega | exact Nat.le_refl _⟩, ⟨by (with_reducible repeat (first | refine blk_drewN ?_ _ | refine blk_drew ?_ | refine blk_alloc ?_ _)); refine blk_far ?_ NB790_798.out _; (with_reducible repeat (first | refine blk_drewN ?_ _ | refine blk_drew ?_ | refine blk_alloc ?_ _)); exact BK790.out⟩, ⟨by (with_reducible repeat (first | refine blk_drewN ?_ _ | refine blk_drew ?_ | refine blk_alloc ?_ _)); refine blk_far ?_ NB791_798.out _; (with_reducible repeat (first | refine blk_drewN ?_ _ | refine blk_drew ?_ | refine blk_alloc ?_ _)); exact BK791.out⟩, ⟨by (with_reducible repeat (first | refine blk_drewN ?_ _ | refine blk_drew ?_ | refine blk_alloc ?_ _)); refine blk_put (cs := #[.int .u64 t793, .int .i64 x799001_3, .string (⟨#[]⟩ : ByteArray), .slice none 0 0]) ?_ 2 _ rfl; (with_reducible repeat (first | refine blk_drewN ?_ _ | refine blk_drew ?_ | refine blk_alloc ?_ _)); exact BK798.out⟩, ⟨pB⟩⟩
    ·rw [if_neg c25] at H
     have c25b0 : (x799001_3 == 1) = false := beq_eq_false_iff_ne.mpr c25
     have c25b1 : (x799001_3 != 1) = true := bne_iff_ne.mpr c25
     (first | rw [c25b0] | (simp only [i64_w, i32_w]; rw [c25b0]) | rw [c25b1] | (simp only [i64_w, i32_w]; rw [c25b1]) | skip)
     have H' := am H
     clear H
     go_wp2
     go_meet
     case rel => exact ⟨_, ((⟨#[]⟩ : ByteArray)), H', ⟨by have := HJ3.out; first | omega | exact Nat.le_refl _⟩, ⟨by (with_reducible repeat (first | refine blk_drewN ?_ _ | refine blk_drew ?_ | refine blk_alloc ?_ _)); exact BK790.out⟩, ⟨by (with_reducible repeat (first | refine blk_drewN ?_ _ | refine blk_drew ?_ | refine blk_alloc ?_ _)); exact BK791.out⟩, ⟨by (with_reducible repeat (first | refine blk_drewN ?_ _ | refine blk_drew ?_ | refine blk_alloc ?_ _)); exact BK798.out⟩, ⟨pB⟩⟩
   case rest =>
    clear HC21
    try clear c1
    try clear c2
    try clear p2
    try clear c3
    try clear c4
    try clear p6
    try clear c7
    try clear c11
    try clear c12
    try clear c17
    try clear c17b0
    try clear c17b1
    try clear c18
    try clear c19
    try clear c22
    try clear c23
    try clear c25
    try clear c25b0
    try clear c25b1
    try clear c27
    try clear c28
    try clear c31
    try clear q13 q15 q20 q24 q29 q32 q8
    try clear p2
    try clear p6
    obtain ⟨kq, x799002_20, HA, HJ20, BK790, BK791, BK798, HB⟩ := hcut
    cases kq with
    | zero => exact absurd HA.out (by simp [minstrelref19_FromEntry.j1])
    | succ kj20 =>
     have H := HA.out
     clear HA
     simp only [minstrelref19_FromEntry.j1] at H
     have HC33 := am H
     clear H
     have hnb34 := NB798_790.out
     have hnc34 := NB790_798.out
     have hnb35 := NB798_791.out
     have hnc35 := NB791_798.out
     have q36 := cf4 BK798.out
     go_upto_if 29 with (fail)
     go_cut [] (fun wc => ∃ (kq : Nat) (x799003_32 : List Int) (u799003 : Value), Aside0 (minstrelref19_FromEntry.j2 kq a0_0 a0_1 a0_2 l0_3 t793 x799001_3 x799002_20 x799003_32 = some (r1, r2, r3, r4, r5)) ∧ Aside0 (kq ≤ kj20) ∧ Aside0 (Kd.R (Kd.int .i64) 3 wc w.heap.size (fun _ => True) u799003 x799003_32) ∧ Aside0 (wc.heap[gb790]? = some (.cells #[.int .i64 a0_0, .int .u64 a0_1, .string a0_2, (.slice A0_3 l0_3.length c0_3)] 26 (0, 0))) ∧ Aside0 (wc.heap[gb791]? = some (.cells #[.int .u64 0, .int .i64 0, .string (⟨#[]⟩ : ByteArray), (.slice none 0 0)] 46 (0, 0))) ∧ Aside0 (wc.heap[gb798]? = some (.cells #[.int .u64 t793, .int .i64 x799001_3, .string x799002_20, u799003] 46 (0, 0))) ∧ Aside0 (Below w.heap.size w wc))
     case first =>
      have H := HC33.out
      clear HC33
      by_cases c37 : x799001_3 = 2
      ·rw [if_pos c37] at H
       have c37b0 : (x799001_3 == 2) = true := beq_iff_eq.mpr c37
       have c37b1 : (x799001_3 != 2) = false := bne_eq_false_iff_eq.mpr c37
       clear c37
       (first | rw [c37b0] | (simp only [i64_w, i32_w]; rw [c37b0]) | rw [c37b1] | (simp only [i64_w, i32_w]; rw [c37b1]) | skip)
       replace H := Option.bind_eq_some_iff.mp H
       obtain ⟨⟨t811, t812, t813, t814⟩, A380, H⟩ := H
       try dsimp only at H
       have A38 := am A380
       clear A380
       replace H := Option.bind_eq_some_iff.mp H
       obtain ⟨t817, A390, H⟩ := H
       try dsimp only at H
       have A39 := am A390
       clear A390
       have H' := am H
       clear H
       have hnb40 := NB790_791.out
       have hnc40 := NB791_790.out
       have hnb41 := NB790_798.out
       have hnc41 := NB798_790.out
       have q42 := cf4 BK790.out
       go_wp2_with (first | ((with_reducible refine gate_callee (f := 41) rfl ?_); refine goesL_ (some 31) rfl rfl Tryd.func41 (by kernel_rfl) rfl #[.agg #[.int .i64 a0_0, .int .u64 a0_1, .string a0_2, .slice A0_3 l0_3.length c0_3], .int .i64 2] rfl pM ?_; (with_reducible refine (minstrelref19_part.calls a0_0 a0_1 a0_2 (fun k_ => k_ < w.heap.size) _ _ l0_3 2 t811 t812 t813 t814 _ ?side1 A38.out).mono ?_); (case side1 => exact Kd.V_mk HC0_3.out (Kd.F_below (Kd.C_F k26_heap HR0_3.out) pB)); rintro e w43 ⟨v815, rfl, ho0, hb⟩; refine ⟨_, rfl, ?_⟩; have HO816 := am (Kd.V_lower (Kd.V_mono (ok' := fun k_ => k_ ≠ gb790 ∧ k_ ≠ gb791 ∧ k_ ≠ gb798) ho0 (fun k_ hk_ => ⟨Or.elim hk_ (fun hs_ => fun e_ => Nat.not_le.2 hs_ (by rw [e_]; exact GW790.out)) (fun hn_ => (Kd.freshB (g := gb790) (o := .cells #[.int .i64 a0_0, .int .u64 a0_1, .string a0_2, .slice A0_3 l0_3.length c0_3] 26 (0, 0)) (pK BK790.out) k_ hn_)), Or.elim hk_ (fun hs_ => fun e_ => Nat.not_le.2 hs_ (by rw [e_]; exact GW791.out)) (fun hn_ => (Kd.freshB (g := gb791) (o := .cells #[.int .u64 0, .int .i64 0, .string (⟨#[]⟩ : ByteArray), .slice none 0 0] 46 (0, 0)) (pK BK791.out) k_ hn_)), Or.elim hk_ (fun hs_ => fun e_ => Nat.not_le.2 hs_ (by rw [e_]; exact GW798.out)) (fun hn_ => (Kd.freshB (g := gb798) (o := .cells #[.int .u64 t793, .int .i64 x799001_3, .string x799002_20, .slice none 0 0] 46 (0, 0)) (pK BK798.out) k_ hn_))⟩)) (below_size pB)); replace BK790 := am (pkb BK790.out hb); replace BK791 := am (pkb BK791.out hb); replace BK798 := am (pkb BK798.out hb); replace HB := am (below_step pB hb); (try clear hb); (try clear hb2); (try clear hk); (try clear hi); (try clear ho0); obtain ⟨Ao44, co44, eo44⟩ := Kd.V_slice HO816.out; subst eo44) | ((with_reducible refine gate_callee (f := 42) rfl ?_); refine goesL_ (some 32) rfl rfl Tryd.func42 (by kernel_rfl) rfl #[.agg #[.int .i64 t811, .int .u64 t812, .string t813, .slice Ao44 t814.length co44]] rfl pM ?_; (with_reducible refine (minstrelref19_numbers.calls kj20 t811 t812 t813 _ _ t814 t817 _ ?side1 ?side2 A39.out).mono ?_); (case side1 => repeat (first | exact (Kd.V_reads' HO816.out).2.2 | (with_reducible refine Kd.C_alloc ?_ _) | (with_reducible refine Kd.C_drewN ?_ _) | (with_reducible refine Kd.C_drew ?_))); (case side2 => exact (Kd.V_reads' HO816.out).2.1); rintro e w45 ⟨v818, rfl, ho0, hb⟩; refine ⟨_, rfl, ?_⟩; replace HO816 := am (Kd.V_elder' (pV HO816.out) (Kd.R_base ho0) hb); have HO819 := am (Kd.R_lower ho0 (below_size pB)); replace BK790 := am (pkb BK790.out hb); replace BK791 := am (pkb BK791.out hb); replace BK798 := am (pkb BK798.out hb); replace HB := am (below_step pB hb); (try clear hb); (try clear hb2); (try clear hk); (try clear hi); (try clear ho0); obtain ⟨Ao46, co46, eo46⟩ := Kd.R_slice HO819.out; subst eo46; have hnb47 := NB798_791.out; have hnc47 := NB791_798.out; have q48 := cf4 BK798.out))
       go_meet
       case rel => exact ⟨_, (t817), (.slice Ao46 t817.length co46), H', ⟨by have := HJ3.out; have := HJ20.out; first | omega | exact Nat.le_refl _⟩, ⟨by (with_reducible repeat (first | apply Kd.R_alloc | apply Kd.R_drewN | apply Kd.R_drew)); exact Kd.R_mono (Kd.R_far (p := ⟨gb798, 3, none⟩) (Kd.R_types HO819.out BK798.out (by decide)) (fun _ hk => hk.2) (.slice Ao46 t817.length co46)) (fun _ hk => trivial)⟩, ⟨by (with_reducible repeat (first | refine blk_drewN ?_ _ | refine blk_drew ?_ | refine blk_alloc ?_ _)); refine blk_far ?_ NB790_798.out _; (with_reducible repeat (first | refine blk_drewN ?_ _ | refine blk_drew ?_ | refine blk_alloc ?_ _)); exact BK790.out⟩, ⟨by (with_reducible repeat (first | refine blk_drewN ?_ _ | refine blk_drew ?_ | refine blk_alloc ?_ _)); refine blk_far ?_ NB791_798.out _; (with_reducible repeat (first | refine blk_drewN ?_ _ | refine blk_drew ?_ | refine blk_alloc ?_ _)); exact BK791.out⟩, ⟨by (with_reducible repeat (first | refine blk_drewN ?_ _ | refine blk_drew ?_ | refine blk_alloc ?_ _)); refine blk_put (cs := #[.int .u64 t793, .int .i64 x799001_3, .string x799002_20, .slice none 0 0]) ?_ 3 _ rfl; (with_reducible repeat (first | refine blk_drewN ?_ _ | refine blk_drew ?_ | refine blk_alloc ?_ _)); exact BK798.out⟩, ⟨pB⟩⟩
      ·rw [if_neg c37] at H
       have c37b0 : (x799001_3 == 2) = false := beq_eq_false_iff_ne.mpr c37
       have c37b1 : (x799001_3 != 2) = true := bne_iff_ne.mpr c37
       (first | rw [c37b0] | (simp only [i64_w, i32_w]; rw [c37b0]) | rw [c37b1] | (simp only [i64_w, i32_w]; rw [c37b1]) | skip)
       have H' := am H
       clear H
       go_wp2
       go_meet
       case rel => exact ⟨_, (([] : List Int)), (.slice none 0 0), H', ⟨by have := HJ3.out; have := HJ20.out; first | omega | exact Nat.le_refl _⟩, ⟨pZ⟩, ⟨by (with_reducible repeat (first | refine blk_drewN ?_ _ | refine blk_drew ?_ | refine blk_alloc ?_ _)); exact BK790.out⟩, ⟨by (with_reducible repeat (first | refine blk_drewN ?_ _ | refine blk_drew ?_ | refine blk_alloc ?_ _)); exact BK791.out⟩, ⟨by (with_reducible repeat (first | refine blk_drewN ?_ _ | refine blk_drew ?_ | refine blk_alloc ?_ _)); exact BK798.out⟩, ⟨pB⟩⟩
     case rest =>
      clear HC33
      try clear c1
      try clear c2
      try clear p2
      try clear c3
      try clear c4
      try clear p6
      try clear c7
      try clear c11
      try clear c12
      try clear c17
      try clear c17b0
      try clear c17b1
      try clear c18
      try clear c19
      try clear c22
      try clear c23
      try clear c25
      try clear c25b0
      try clear c25b1
      try clear c27
      try clear c28
      try clear c31
      try clear c34
      try clear c35
      try clear c37
      try clear c37b0
      try clear c37b1
      try clear c40
      try clear c41
      try clear c42
      try clear c47
      try clear q13 q15 q20 q24 q29 q32 q36 q42 q48 q8
      try clear p2
      try clear p6
      obtain ⟨kq, x799003_32, u799003, HA, HJ32, HO_799003, BK790, BK791, BK798, HB⟩ := hcut
      cases kq with
      | zero => exact absurd HA.out (by simp [minstrelref19_FromEntry.j2])
      | succ kj32 =>
       have H := HA.out
       clear HA
       simp only [minstrelref19_FromEntry.j2] at H
       replace H := Option.bind_eq_some_iff.mp H
       obtain ⟨⟨t820, t821, t822, t823, t826⟩, A490, H⟩ := H
       try dsimp only at H
       have A49 := am A490
       clear A490
       by_cases c50 : t826 = 0
       ·rw [if_pos c50] at H
        have c50b0 : (t826 == 0) = true := beq_iff_eq.mpr c50
        have c50b1 : (t826 != 0) = false := bne_eq_false_iff_eq.mpr c50
        clear c50
        replace H := Option.bind_eq_some_iff.mp H
        obtain ⟨t828, A510, H⟩ := H
        try dsimp only at H
        have A51 := am A510
        clear A510
        by_cases c52 : t828 = true
        ·subst c52
         rw [if_pos rfl] at H
         simp only [Option.some.injEq, Prod.mk.injEq] at H
         obtain ⟨rfl, rfl, rfl, rfl, rfl⟩ := H
         have hnb53 := NB798_790.out
         have hnc53 := NB790_798.out
         have hnb54 := NB798_791.out
         have hnc54 := NB791_798.out
         have q55 := cf4 BK798.out
         obtain ⟨Ao56, co56, eo56⟩ := Kd.R_slice HO_799003.out
         subst eo56
         go_wp2_with (first | ((with_reducible refine gate_callee (f := 18) rfl ?_); refine goesL_ (some 36) rfl rfl Tryd.func18 (by kernel_rfl) rfl #[.agg #[.int .u64 t793, .int .i64 x799001_3, .string x799002_20, .slice Ao56 x799003_32.length co56]] rfl pM ?_; (with_reducible refine (minstrelref19_EntryCell.calls kj32 t793 x799001_3 x799002_20 _ _ x799003_32 t820 t821 t822 t823 t826 _ ?side1 ?side2 A49.out).mono ?_); (case side1 => repeat (first | exact (Kd.R_reads' HO_799003.out).2.2 | (with_reducible refine Kd.C_alloc ?_ _) | (with_reducible refine Kd.C_drewN ?_ _) | (with_reducible refine Kd.C_drew ?_))); (case side2 => exact (Kd.R_reads' HO_799003.out).2.1); rintro e w57 ⟨v824, rfl, ho0, hb⟩; refine ⟨_, rfl, ?_⟩; have HO825 := am (Kd.V_lower (Kd.V_mono (ok' := fun k_ => some k_ ≠ (.slice Ao56 x799003_32.length co56 : Value).ownBlock ∧ k_ ≠ gb790 ∧ k_ ≠ gb791 ∧ k_ ≠ gb798) ho0 (fun k_ hk_ => ⟨(Kd.fresh' (Kd.R_lt (pR HO_799003.out)) k_ hk_), (Kd.freshB (g := gb790) (o := .cells #[.int .i64 a0_0, .int .u64 a0_1, .string a0_2, .slice A0_3 l0_3.length c0_3] 26 (0, 0)) (pK BK790.out) k_ hk_), (Kd.freshB (g := gb791) (o := .cells #[.int .u64 0, .int .i64 0, .string (⟨#[]⟩ : ByteArray), .slice none 0 0] 46 (0, 0)) (pK BK791.out) k_ hk_), (Kd.freshB (g := gb798) (o := .cells #[.int .u64 t793, .int .i64 x799001_3, .string x799002_20, .slice Ao56 x799003_32.length co56] 46 (0, 0)) (pK BK798.out) k_ hk_)⟩)) (below_size pB)); replace HO_799003 := am (Kd.R_below (pR HO_799003.out) hb); replace BK790 := am (pkb BK790.out hb); replace BK791 := am (pkb BK791.out hb); replace BK798 := am (pkb BK798.out hb); replace HB := am (below_step pB hb); (try clear hb); (try clear hb2); (try clear hk); (try clear hi); (try clear ho0)) | ((with_reducible refine gate_dst (N := 6) rfl ?_); refine box_event ?hg (N := 6) ?hd (cs := #[.int .i64 0, .int .u64 0, .string (⟨#[]⟩ : ByteArray), .slice none 0 0]) (t := 26) ?hr ?_; (case hd => rfl); (case hg => rfl); (case hr => first | (go_simp; done) | (go_simp; rfl)); intro gb827 hg w58 hbox hb; replace HO_799003 := am (Kd.R_below (pR HO_799003.out) hb); replace HO825 := am (Kd.V_below (Kd.V_elderB (pV HO825.out) gb827 (Nat.le_of_eq hg.symm)) hb); have BK827 := am (hbox); have GW827 := am ((by rw [hg]; exact (below_size pB) : w.heap.size ≤ gb827)); have GE827 := am ((by rw [hg]; exact (below_size pB) : w.heap.size ≤ gb827)); have NB790_827 := am ((by rw [hg]; exact Nat.ne_of_lt (pkl BK790.out) : gb790 ≠ gb827)); have NB827_790 := am ((by rw [hg]; exact Nat.ne_of_gt (pkl BK790.out) : gb827 ≠ gb790)); replace BK790 := am (pkb BK790.out hb); have NB791_827 := am ((by rw [hg]; exact Nat.ne_of_lt (pkl BK791.out) : gb791 ≠ gb827)); have NB827_791 := am ((by rw [hg]; exact Nat.ne_of_gt (pkl BK791.out) : gb827 ≠ gb791)); replace BK791 := am (pkb BK791.out hb); have NB798_827 := am ((by rw [hg]; exact Nat.ne_of_lt (pkl BK798.out) : gb798 ≠ gb827)); have NB827_798 := am ((by rw [hg]; exact Nat.ne_of_gt (pkl BK798.out) : gb827 ≠ gb798)); replace BK798 := am (pkb BK798.out hb); replace HB := am (below_step pB hb); clear hb hbox hg; have hnb59 := NB827_790.out; have hnc59 := NB790_827.out; have hnb60 := NB827_791.out; have hnc60 := NB791_827.out; have hnb61 := NB827_798.out; have hnc61 := NB798_827.out; have q62 := cf4 BK827.out; obtain ⟨Ao63, co63, eo63⟩ := Kd.V_slice HO825.out; subst eo63; have hnb64 := NB790_791.out; have hnc64 := NB791_790.out; have q65 := cf4 BK790.out) | (go_at_call 19; (with_reducible refine (minstrelref07_Same.calls kj32 t820 t821 t822 _ _ t823 a0_0 a0_1 a0_2 _ _ l0_3 true _ ?side1 ?side2 ?side3 ?side4 A51.out).mono ?_); (case side1 => refine (Kd.V_reads' (e := 26) (base := w.heap.size) (ok := fun k_ => ((some k_ ≠ (.slice Ao56 x799003_32.length co56 : Value).ownBlock ∧ (k_ ≠ gb790 ∧ (k_ ≠ gb791 ∧ k_ ≠ gb798))) ∧ k_ ≠ gb827)) (n := t823.length) (c := co63) ?_).2.2; exact (by (with_reducible repeat (first | apply Kd.V_alloc | apply Kd.V_drewN | apply Kd.V_drew)); exact (Kd.V_mono (Kd.V_far (p := ⟨gb827, 3, none⟩) (Kd.V_far (p := ⟨gb827, 2, none⟩) (Kd.V_far (p := ⟨gb827, 1, none⟩) (Kd.V_far (p := ⟨gb827, 0, none⟩) (Kd.V_mono HO825.out (fun k_ hk => (⟨hk, hk.2⟩ : _ ∧ k_ ≠ gb827))) (fun _ hk => hk.2) (.int .i64 t820)) (fun _ hk => hk.2) (.int .u64 t821)) (fun _ hk => hk.2) (.string t822)) (fun _ hk => hk.2) (.slice Ao63 t823.length co63)) (fun _ h_ => h_.1)))); (case side2 => exact (Kd.V_reads' HO825.out).2.1); (case side3 => exact Kd.C_below HR0_3.out pB); (case side4 => exact HC0_3.out); rintro e w66 ⟨rfl, hb⟩; replace HO_799003 := am (Kd.R_below (by (with_reducible repeat (first | apply Kd.R_alloc | apply Kd.R_drewN | apply Kd.R_drew)); exact (Kd.R_mono (Kd.R_far (p := ⟨gb827, 3, none⟩) (Kd.R_far (p := ⟨gb827, 2, none⟩) (Kd.R_far (p := ⟨gb827, 1, none⟩) (Kd.R_far (p := ⟨gb827, 0, none⟩) (Kd.R_types HO_799003.out BK827.out (by decide)) (fun _ hk => hk.2) (.int .i64 t820)) (fun _ hk => hk.2) (.int .u64 t821)) (fun _ hk => hk.2) (.string t822)) (fun _ hk => hk.2) (.slice Ao63 t823.length co63)) (fun _ h_ => h_.1))) hb); replace HO825 := am (Kd.V_below (by (with_reducible repeat (first | apply Kd.V_alloc | apply Kd.V_drewN | apply Kd.V_drew)); exact (Kd.V_mono (Kd.V_far (p := ⟨gb827, 3, none⟩) (Kd.V_far (p := ⟨gb827, 2, none⟩) (Kd.V_far (p := ⟨gb827, 1, none⟩) (Kd.V_far (p := ⟨gb827, 0, none⟩) (Kd.V_mono HO825.out (fun k_ hk => (⟨hk, hk.2⟩ : _ ∧ k_ ≠ gb827))) (fun _ hk => hk.2) (.int .i64 t820)) (fun _ hk => hk.2) (.int .u64 t821)) (fun _ hk => hk.2) (.string t822)) (fun _ hk => hk.2) (.slice Ao63 t823.length co63)) (fun _ h_ => h_.1))) hb); replace BK790 := am (blk_below (g := gb790) (o := .cells #[.int .i64 a0_0, .int .u64 a0_1, .string a0_2, .slice A0_3 l0_3.length c0_3] 26 (0, 0)) (by (with_reducible repeat (first | refine blk_drewN ?_ _ | refine blk_drew ?_ | refine blk_alloc ?_ _)); refine blk_far ?_ NB790_827.out _; (with_reducible repeat (first | refine blk_drewN ?_ _ | refine blk_drew ?_ | refine blk_alloc ?_ _)); refine blk_far ?_ NB790_827.out _; (with_reducible repeat (first | refine blk_drewN ?_ _ | refine blk_drew ?_ | refine blk_alloc ?_ _)); refine blk_far ?_ NB790_827.out _; (with_reducible repeat (first | refine blk_drewN ?_ _ | refine blk_drew ?_ | refine blk_alloc ?_ _)); refine blk_far ?_ NB790_827.out _; (with_reducible repeat (first | refine blk_drewN ?_ _ | refine blk_drew ?_ | refine blk_alloc ?_ _)); exact BK790.out) hb); replace BK791 := am (blk_below (g := gb791) (o := .cells #[.int .u64 0, .int .i64 0, .string (⟨#[]⟩ : ByteArray), .slice none 0 0] 46 (0, 0)) (by (with_reducible repeat (first | refine blk_drewN ?_ _ | refine blk_drew ?_ | refine blk_alloc ?_ _)); refine blk_far ?_ NB791_827.out _; (with_reducible repeat (first | refine blk_drewN ?_ _ | refine blk_drew ?_ | refine blk_alloc ?_ _)); refine blk_far ?_ NB791_827.out _; (with_reducible repeat (first | refine blk_drewN ?_ _ | refine blk_drew ?_ | refine blk_alloc ?_ _)); refine blk_far ?_ NB791_827.out _; (with_reducible repeat (first | refine blk_drewN ?_ _ | refine blk_drew ?_ | refine blk_alloc ?_ _)); refine blk_far ?_ NB791_827.out _; (with_reducible repeat (first | refine blk_drewN ?_ _ | refine blk_drew ?_ | refine blk_alloc ?_ _)); exact BK791.out) hb); replace BK798 := am (blk_below (g := gb798) (o := .cells #[.int .u64 t793, .int .i64 x799001_3, .string x799002_20, .slice Ao56 x799003_32.length co56] 46 (0, 0)) (by (with_reducible repeat (first | refine blk_drewN ?_ _ | refine blk_drew ?_ | refine blk_alloc ?_ _)); refine blk_far ?_ NB798_827.out _; (with_reducible repeat (first | refine blk_drewN ?_ _ | refine blk_drew ?_ | refine blk_alloc ?_ _)); refine blk_far ?_ NB798_827.out _; (with_reducible repeat (first | refine blk_drewN ?_ _ | refine blk_drew ?_ | refine blk_alloc ?_ _)); refine blk_far ?_ NB798_827.out _; (with_reducible repeat (first | refine blk_drewN ?_ _ | refine blk_drew ?_ | refine blk_alloc ?_ _)); refine blk_far ?_ NB798_827.out _; (with_reducible repeat (first | refine blk_drewN ?_ _ | refine blk_drew ?_ | refine blk_alloc ?_ _)); exact BK798.out) hb); replace BK827 := am (blk_below (g := gb827) (o := .cells #[.int .i64 t820, .int .u64 t821, .string t822, .slice Ao63 t823.length co63] 26 (0, 0)) (by (with_reducible repeat (first | refine blk_drewN ?_ _ | refine blk_drew ?_ | refine blk_alloc ?_ _)); refine blk_put (cs := #[.int .i64 t820, .int .u64 t821, .string t822, .slice none 0 0]) ?_ 3 _ rfl; (with_reducible repeat (first | refine blk_drewN ?_ _ | refine blk_drew ?_ | refine blk_alloc ?_ _)); refine blk_put (cs := #[.int .i64 t820, .int .u64 t821, .string (⟨#[]⟩ : ByteArray), .slice none 0 0]) ?_ 2 _ rfl; (with_reducible repeat (first | refine blk_drewN ?_ _ | refine blk_drew ?_ | refine blk_alloc ?_ _)); refine blk_put (cs := #[.int .i64 t820, .int .u64 0, .string (⟨#[]⟩ : ByteArray), .slice none 0 0]) ?_ 1 _ rfl; (with_reducible repeat (first | refine blk_drewN ?_ _ | refine blk_drew ?_ | refine blk_alloc ?_ _)); refine blk_put (cs := #[.int .i64 0, .int .u64 0, .string (⟨#[]⟩ : ByteArray), .slice none 0 0]) ?_ 0 _ rfl; (with_reducible repeat (first | refine blk_drewN ?_ _ | refine blk_drew ?_ | refine blk_alloc ?_ _)); exact BK827.out) hb); replace HB := am (below_step pB hb); (try clear hb); (try clear hb2); (try clear hk); (try clear hi); have q67 := cf4 BK798.out; have q68 := cf4 BK791.out))
         refine bodyPost_ret (results_ct rfl _ _ gb791 46 #[.int .u64 t793, .int .i64 x799001_3, .string x799002_20, .slice Ao56 x799003_32.length co56] (0, 0) _ rfl (by (with_reducible repeat (first | refine blk_drewN ?_ _ | refine blk_drew ?_ | refine blk_alloc ?_ _)); refine blk_put (cs := #[.int .u64 t793, .int .i64 x799001_3, .string x799002_20, .slice none 0 0]) ?_ 3 _ rfl; (with_reducible repeat (first | refine blk_drewN ?_ _ | refine blk_drew ?_ | refine blk_alloc ?_ _)); refine blk_put (cs := #[.int .u64 t793, .int .i64 x799001_3, .string (⟨#[]⟩ : ByteArray), .slice none 0 0]) ?_ 2 _ rfl; (with_reducible repeat (first | refine blk_drewN ?_ _ | refine blk_drew ?_ | refine blk_alloc ?_ _)); refine blk_put (cs := #[.int .u64 t793, .int .i64 0, .string (⟨#[]⟩ : ByteArray), .slice none 0 0]) ?_ 1 _ rfl; (with_reducible repeat (first | refine blk_drewN ?_ _ | refine blk_drew ?_ | refine blk_alloc ?_ _)); refine blk_put (cs := #[.int .u64 0, .int .i64 0, .string (⟨#[]⟩ : ByteArray), .slice none 0 0]) ?_ 0 _ rfl; (with_reducible repeat (first | refine blk_drewN ?_ _ | refine blk_drew ?_ | refine blk_alloc ?_ _)); exact BK791.out) Tryd.underlying46 rfl (by kernel_rfl)) rfl ?_
         exact ⟨_, pE, by (with_reducible repeat (first | apply Kd.R_alloc | apply Kd.R_drewN | apply Kd.R_drew)); exact Kd.R_mono (Kd.R_far (p := ⟨gb791, 3, none⟩) (Kd.R_far (p := ⟨gb791, 2, none⟩) (Kd.R_far (p := ⟨gb791, 1, none⟩) (Kd.R_far (p := ⟨gb791, 0, none⟩) (Kd.R_types HO_799003.out BK791.out (by decide)) (fun _ hk => hk.2) (.int .u64 t793)) (fun _ hk => hk.2) (.int .i64 x799001_3)) (fun _ hk => hk.2) (.string x799002_20)) (fun _ hk => hk.2) (.slice Ao56 x799003_32.length co56)) (fun _ hk => trivial), pB⟩
        ·replace c52 := Bool.eq_false_iff.mpr c52
         subst c52
         rw [if_neg (show ¬ (false = true) by decide)] at H
         simp only [Option.some.injEq, Prod.mk.injEq] at H
         obtain ⟨rfl, rfl, rfl, rfl, rfl⟩ := H
         have hnb69 := NB798_790.out
         have hnc69 := NB790_798.out
         have hnb70 := NB798_791.out
         have hnc70 := NB791_798.out
         have q71 := cf4 BK798.out
         obtain ⟨Ao72, co72, eo72⟩ := Kd.R_slice HO_799003.out
         subst eo72
         go_wp2_with (first | ((with_reducible refine gate_callee (f := 18) rfl ?_); refine goesL_ (some 36) rfl rfl Tryd.func18 (by kernel_rfl) rfl #[.agg #[.int .u64 t793, .int .i64 x799001_3, .string x799002_20, .slice Ao72 x799003_32.length co72]] rfl pM ?_; (with_reducible refine (minstrelref19_EntryCell.calls kj32 t793 x799001_3 x799002_20 _ _ x799003_32 t820 t821 t822 t823 t826 _ ?side1 ?side2 A49.out).mono ?_); (case side1 => repeat (first | exact (Kd.R_reads' HO_799003.out).2.2 | (with_reducible refine Kd.C_alloc ?_ _) | (with_reducible refine Kd.C_drewN ?_ _) | (with_reducible refine Kd.C_drew ?_))); (case side2 => exact (Kd.R_reads' HO_799003.out).2.1); rintro e w73 ⟨v824, rfl, ho0, hb⟩; refine ⟨_, rfl, ?_⟩; have HO825 := am (Kd.V_lower (Kd.V_mono (ok' := fun k_ => some k_ ≠ (.slice Ao72 x799003_32.length co72 : Value).ownBlock ∧ k_ ≠ gb790 ∧ k_ ≠ gb791 ∧ k_ ≠ gb798) ho0 (fun k_ hk_ => ⟨(Kd.fresh' (Kd.R_lt (pR HO_799003.out)) k_ hk_), (Kd.freshB (g := gb790) (o := .cells #[.int .i64 a0_0, .int .u64 a0_1, .string a0_2, .slice A0_3 l0_3.length c0_3] 26 (0, 0)) (pK BK790.out) k_ hk_), (Kd.freshB (g := gb791) (o := .cells #[.int .u64 0, .int .i64 0, .string (⟨#[]⟩ : ByteArray), .slice none 0 0] 46 (0, 0)) (pK BK791.out) k_ hk_), (Kd.freshB (g := gb798) (o := .cells #[.int .u64 t793, .int .i64 x799001_3, .string x799002_20, .slice Ao72 x799003_32.length co72] 46 (0, 0)) (pK BK798.out) k_ hk_)⟩)) (below_size pB)); replace HO_799003 := am (Kd.R_below (pR HO_799003.out) hb); replace BK790 := am (pkb BK790.out hb); replace BK791 := am (pkb BK791.out hb); replace BK798 := am (pkb BK798.out hb); replace HB := am (below_step pB hb); (try clear hb); (try clear hb2); (try clear hk); (try clear hi); (try clear ho0)) | ((with_reducible refine gate_dst (N := 6) rfl ?_); refine box_event ?hg (N := 6) ?hd (cs := #[.int .i64 0, .int .u64 0, .string (⟨#[]⟩ : ByteArray), .slice none 0 0]) (t := 26) ?hr ?_; (case hd => rfl); (case hg => rfl); (case hr => first | (go_simp; done) | (go_simp; rfl)); intro gb827 hg w74 hbox hb; replace HO_799003 := am (Kd.R_below (pR HO_799003.out) hb); replace HO825 := am (Kd.V_below (Kd.V_elderB (pV HO825.out) gb827 (Nat.le_of_eq hg.symm)) hb); have BK827 := am (hbox); have GW827 := am ((by rw [hg]; exact (below_size pB) : w.heap.size ≤ gb827)); have GE827 := am ((by rw [hg]; exact (below_size pB) : w.heap.size ≤ gb827)); have NB790_827 := am ((by rw [hg]; exact Nat.ne_of_lt (pkl BK790.out) : gb790 ≠ gb827)); have NB827_790 := am ((by rw [hg]; exact Nat.ne_of_gt (pkl BK790.out) : gb827 ≠ gb790)); replace BK790 := am (pkb BK790.out hb); have NB791_827 := am ((by rw [hg]; exact Nat.ne_of_lt (pkl BK791.out) : gb791 ≠ gb827)); have NB827_791 := am ((by rw [hg]; exact Nat.ne_of_gt (pkl BK791.out) : gb827 ≠ gb791)); replace BK791 := am (pkb BK791.out hb); have NB798_827 := am ((by rw [hg]; exact Nat.ne_of_lt (pkl BK798.out) : gb798 ≠ gb827)); have NB827_798 := am ((by rw [hg]; exact Nat.ne_of_gt (pkl BK798.out) : gb827 ≠ gb798)); replace BK798 := am (pkb BK798.out hb); replace HB := am (below_step pB hb); clear hb hbox hg; have hnb75 := NB827_790.out; have hnc75 := NB790_827.out; have hnb76 := NB827_791.out; have hnc76 := NB791_827.out; have hnb77 := NB827_798.out; have hnc77 := NB798_827.out; have q78 := cf4 BK827.out; obtain ⟨Ao79, co79, eo79⟩ := Kd.V_slice HO825.out; subst eo79; have hnb80 := NB790_791.out; have hnc80 := NB791_790.out; have q81 := cf4 BK790.out) | (go_at_call 19; (with_reducible refine (minstrelref07_Same.calls kj32 t820 t821 t822 _ _ t823 a0_0 a0_1 a0_2 _ _ l0_3 false _ ?side1 ?side2 ?side3 ?side4 A51.out).mono ?_); (case side1 => refine (Kd.V_reads' (e := 26) (base := w.heap.size) (ok := fun k_ => ((some k_ ≠ (.slice Ao72 x799003_32.length co72 : Value).ownBlock ∧ (k_ ≠ gb790 ∧ (k_ ≠ gb791 ∧ k_ ≠ gb798))) ∧ k_ ≠ gb827)) (n := t823.length) (c := co79) ?_).2.2; exact (by (with_reducible repeat (first | apply Kd.V_alloc | apply Kd.V_drewN | apply Kd.V_drew)); exact (Kd.V_mono (Kd.V_far (p := ⟨gb827, 3, none⟩) (Kd.V_far (p := ⟨gb827, 2, none⟩) (Kd.V_far (p := ⟨gb827, 1, none⟩) (Kd.V_far (p := ⟨gb827, 0, none⟩) (Kd.V_mono HO825.out (fun k_ hk => (⟨hk, hk.2⟩ : _ ∧ k_ ≠ gb827))) (fun _ hk => hk.2) (.int .i64 t820)) (fun _ hk => hk.2) (.int .u64 t821)) (fun _ hk => hk.2) (.string t822)) (fun _ hk => hk.2) (.slice Ao79 t823.length co79)) (fun _ h_ => h_.1)))); (case side2 => exact (Kd.V_reads' HO825.out).2.1); (case side3 => exact Kd.C_below HR0_3.out pB); (case side4 => exact HC0_3.out); rintro e w82 ⟨rfl, hb⟩; replace HO_799003 := am (Kd.R_below (by (with_reducible repeat (first | apply Kd.R_alloc | apply Kd.R_drewN | apply Kd.R_drew)); exact (Kd.R_mono (Kd.R_far (p := ⟨gb827, 3, none⟩) (Kd.R_far (p := ⟨gb827, 2, none⟩) (Kd.R_far (p := ⟨gb827, 1, none⟩) (Kd.R_far (p := ⟨gb827, 0, none⟩) (Kd.R_types HO_799003.out BK827.out (by decide)) (fun _ hk => hk.2) (.int .i64 t820)) (fun _ hk => hk.2) (.int .u64 t821)) (fun _ hk => hk.2) (.string t822)) (fun _ hk => hk.2) (.slice Ao79 t823.length co79)) (fun _ h_ => h_.1))) hb); replace HO825 := am (Kd.V_below (by (with_reducible repeat (first | apply Kd.V_alloc | apply Kd.V_drewN | apply Kd.V_drew)); exact (Kd.V_mono (Kd.V_far (p := ⟨gb827, 3, none⟩) (Kd.V_far (p := ⟨gb827, 2, none⟩) (Kd.V_far (p := ⟨gb827, 1, none⟩) (Kd.V_far (p := ⟨gb827, 0, none⟩) (Kd.V_mono HO825.out (fun k_ hk => (⟨hk, hk.2⟩ : _ ∧ k_ ≠ gb827))) (fun _ hk => hk.2) (.int .i64 t820)) (fun _ hk => hk.2) (.int .u64 t821)) (fun _ hk => hk.2) (.string t822)) (fun _ hk => hk.2) (.slice Ao79 t823.length co79)) (fun _ h_ => h_.1))) hb); replace BK790 := am (blk_below (g := gb790) (o := .cells #[.int .i64 a0_0, .int .u64 a0_1, .string a0_2, .slice A0_3 l0_3.length c0_3] 26 (0, 0)) (by (with_reducible repeat (first | refine blk_drewN ?_ _ | refine blk_drew ?_ | refine blk_alloc ?_ _)); refine blk_far ?_ NB790_827.out _; (with_reducible repeat (first | refine blk_drewN ?_ _ | refine blk_drew ?_ | refine blk_alloc ?_ _)); refine blk_far ?_ NB790_827.out _; (with_reducible repeat (first | refine blk_drewN ?_ _ | refine blk_drew ?_ | refine blk_alloc ?_ _)); refine blk_far ?_ NB790_827.out _; (with_reducible repeat (first | refine blk_drewN ?_ _ | refine blk_drew ?_ | refine blk_alloc ?_ _)); refine blk_far ?_ NB790_827.out _; (with_reducible repeat (first | refine blk_drewN ?_ _ | refine blk_drew ?_ | refine blk_alloc ?_ _)); exact BK790.out) hb); replace BK791 := am (blk_below (g := gb791) (o := .cells #[.int .u64 0, .int .i64 0, .string (⟨#[]⟩ : ByteArray), .slice none 0 0] 46 (0, 0)) (by (with_reducible repeat (first | refine blk_drewN ?_ _ | refine blk_drew ?_ | refine blk_alloc ?_ _)); refine blk_far ?_ NB791_827.out _; (with_reducible repeat (first | refine blk_drewN ?_ _ | refine blk_drew ?_ | refine blk_alloc ?_ _)); refine blk_far ?_ NB791_827.out _; (with_reducible repeat (first | refine blk_drewN ?_ _ | refine blk_drew ?_ | refine blk_alloc ?_ _)); refine blk_far ?_ NB791_827.out _; (with_reducible repeat (first | refine blk_drewN ?_ _ | refine blk_drew ?_ | refine blk_alloc ?_ _)); refine blk_far ?_ NB791_827.out _; (with_reducible repeat (first | refine blk_drewN ?_ _ | refine blk_drew ?_ | refine blk_alloc ?_ _)); exact BK791.out) hb); replace BK798 := am (blk_below (g := gb798) (o := .cells #[.int .u64 t793, .int .i64 x799001_3, .string x799002_20, .slice Ao72 x799003_32.length co72] 46 (0, 0)) (by (with_reducible repeat (first | refine blk_drewN ?_ _ | refine blk_drew ?_ | refine blk_alloc ?_ _)); refine blk_far ?_ NB798_827.out _; (with_reducible repeat (first | refine blk_drewN ?_ _ | refine blk_drew ?_ | refine blk_alloc ?_ _)); refine blk_far ?_ NB798_827.out _; (with_reducible repeat (first | refine blk_drewN ?_ _ | refine blk_drew ?_ | refine blk_alloc ?_ _)); refine blk_far ?_ NB798_827.out _; (with_reducible repeat (first | refine blk_drewN ?_ _ | refine blk_drew ?_ | refine blk_alloc ?_ _)); refine blk_far ?_ NB798_827.out _; (with_reducible repeat (first | refine blk_drewN ?_ _ | refine blk_drew ?_ | refine blk_alloc ?_ _)); exact BK798.out) hb); replace BK827 := am (blk_below (g := gb827) (o := .cells #[.int .i64 t820, .int .u64 t821, .string t822, .slice Ao79 t823.length co79] 26 (0, 0)) (by (with_reducible repeat (first | refine blk_drewN ?_ _ | refine blk_drew ?_ | refine blk_alloc ?_ _)); refine blk_put (cs := #[.int .i64 t820, .int .u64 t821, .string t822, .slice none 0 0]) ?_ 3 _ rfl; (with_reducible repeat (first | refine blk_drewN ?_ _ | refine blk_drew ?_ | refine blk_alloc ?_ _)); refine blk_put (cs := #[.int .i64 t820, .int .u64 t821, .string (⟨#[]⟩ : ByteArray), .slice none 0 0]) ?_ 2 _ rfl; (with_reducible repeat (first | refine blk_drewN ?_ _ | refine blk_drew ?_ | refine blk_alloc ?_ _)); refine blk_put (cs := #[.int .i64 t820, .int .u64 0, .string (⟨#[]⟩ : ByteArray), .slice none 0 0]) ?_ 1 _ rfl; (with_reducible repeat (first | refine blk_drewN ?_ _ | refine blk_drew ?_ | refine blk_alloc ?_ _)); refine blk_put (cs := #[.int .i64 0, .int .u64 0, .string (⟨#[]⟩ : ByteArray), .slice none 0 0]) ?_ 0 _ rfl; (with_reducible repeat (first | refine blk_drewN ?_ _ | refine blk_drew ?_ | refine blk_alloc ?_ _)); exact BK827.out) hb); replace HB := am (below_step pB hb); (try clear hb); (try clear hb2); (try clear hk); (try clear hi); have q83 := cf4 BK791.out))
         refine bodyPost_ret (results_ct rfl _ _ gb791 46 #[.int .u64 0, .int .i64 0, .string (⟨#[]⟩ : ByteArray), .slice none 0 0] (0, 0) _ rfl (by (iterate 4 ((with_reducible repeat (first | refine blk_drewN ?_ _ | refine blk_drew ?_ | refine blk_alloc ?_ _)); refine blk_put (cs := #[.int .u64 0, .int .i64 0, .string (⟨#[]⟩ : ByteArray), .slice none 0 0]) ?_ _ _ rfl)); (with_reducible repeat (first | refine blk_drewN ?_ _ | refine blk_drew ?_ | refine blk_alloc ?_ _)); exact BK791.out) Tryd.underlying46 rfl (by kernel_rfl)) rfl ?_
         exact ⟨_, pE, pZ, pB⟩
       ·rw [if_neg c50] at H
        have c50b0 : (t826 == 0) = false := beq_eq_false_iff_ne.mpr c50
        have c50b1 : (t826 != 0) = true := bne_iff_ne.mpr c50
        simp only [Option.some.injEq, Prod.mk.injEq] at H
        obtain ⟨rfl, rfl, rfl, rfl, rfl⟩ := H
        have hnb84 := NB798_790.out
        have hnc84 := NB790_798.out
        have hnb85 := NB798_791.out
        have hnc85 := NB791_798.out
        have q86 := cf4 BK798.out
        obtain ⟨Ao87, co87, eo87⟩ := Kd.R_slice HO_799003.out
        subst eo87
        go_wp2_with (first | ((with_reducible refine gate_callee (f := 18) rfl ?_); refine goesL_ (some 36) rfl rfl Tryd.func18 (by kernel_rfl) rfl #[.agg #[.int .u64 t793, .int .i64 x799001_3, .string x799002_20, .slice Ao87 x799003_32.length co87]] rfl pM ?_; (with_reducible refine (minstrelref19_EntryCell.calls kj32 t793 x799001_3 x799002_20 _ _ x799003_32 t820 t821 t822 t823 t826 _ ?side1 ?side2 A49.out).mono ?_); (case side1 => repeat (first | exact (Kd.R_reads' HO_799003.out).2.2 | (with_reducible refine Kd.C_alloc ?_ _) | (with_reducible refine Kd.C_drewN ?_ _) | (with_reducible refine Kd.C_drew ?_))); (case side2 => exact (Kd.R_reads' HO_799003.out).2.1); rintro e w88 ⟨v824, rfl, ho0, hb⟩; refine ⟨_, rfl, ?_⟩; have HO825 := am (Kd.V_lower (Kd.V_mono (ok' := fun k_ => some k_ ≠ (.slice Ao87 x799003_32.length co87 : Value).ownBlock ∧ k_ ≠ gb790 ∧ k_ ≠ gb791 ∧ k_ ≠ gb798) ho0 (fun k_ hk_ => ⟨(Kd.fresh' (Kd.R_lt (pR HO_799003.out)) k_ hk_), (Kd.freshB (g := gb790) (o := .cells #[.int .i64 a0_0, .int .u64 a0_1, .string a0_2, .slice A0_3 l0_3.length c0_3] 26 (0, 0)) (pK BK790.out) k_ hk_), (Kd.freshB (g := gb791) (o := .cells #[.int .u64 0, .int .i64 0, .string (⟨#[]⟩ : ByteArray), .slice none 0 0] 46 (0, 0)) (pK BK791.out) k_ hk_), (Kd.freshB (g := gb798) (o := .cells #[.int .u64 t793, .int .i64 x799001_3, .string x799002_20, .slice Ao87 x799003_32.length co87] 46 (0, 0)) (pK BK798.out) k_ hk_)⟩)) (below_size pB)); replace HO_799003 := am (Kd.R_below (pR HO_799003.out) hb); replace BK790 := am (pkb BK790.out hb); replace BK791 := am (pkb BK791.out hb); replace BK798 := am (pkb BK798.out hb); replace HB := am (below_step pB hb); (try clear hb); (try clear hb2); (try clear hk); (try clear hi); (try clear ho0)) | ((with_reducible refine gate_dst (N := 6) rfl ?_); refine box_event ?hg (N := 6) ?hd (cs := #[.int .i64 0, .int .u64 0, .string (⟨#[]⟩ : ByteArray), .slice none 0 0]) (t := 26) ?hr ?_; (case hd => rfl); (case hg => rfl); (case hr => first | (go_simp; done) | (go_simp; rfl)); intro gb827 hg w89 hbox hb; replace HO_799003 := am (Kd.R_below (pR HO_799003.out) hb); replace HO825 := am (Kd.V_below (Kd.V_elderB (pV HO825.out) gb827 (Nat.le_of_eq hg.symm)) hb); have BK827 := am (hbox); have GW827 := am ((by rw [hg]; exact (below_size pB) : w.heap.size ≤ gb827)); have GE827 := am ((by rw [hg]; exact (below_size pB) : w.heap.size ≤ gb827)); have NB790_827 := am ((by rw [hg]; exact Nat.ne_of_lt (pkl BK790.out) : gb790 ≠ gb827)); have NB827_790 := am ((by rw [hg]; exact Nat.ne_of_gt (pkl BK790.out) : gb827 ≠ gb790)); replace BK790 := am (pkb BK790.out hb); have NB791_827 := am ((by rw [hg]; exact Nat.ne_of_lt (pkl BK791.out) : gb791 ≠ gb827)); have NB827_791 := am ((by rw [hg]; exact Nat.ne_of_gt (pkl BK791.out) : gb827 ≠ gb791)); replace BK791 := am (pkb BK791.out hb); have NB798_827 := am ((by rw [hg]; exact Nat.ne_of_lt (pkl BK798.out) : gb798 ≠ gb827)); have NB827_798 := am ((by rw [hg]; exact Nat.ne_of_gt (pkl BK798.out) : gb827 ≠ gb798)); replace BK798 := am (pkb BK798.out hb); replace HB := am (below_step pB hb); clear hb hbox hg; have hnb90 := NB827_790.out; have hnc90 := NB790_827.out; have hnb91 := NB827_791.out; have hnc91 := NB791_827.out; have hnb92 := NB827_798.out; have hnc92 := NB798_827.out; have q93 := cf4 BK827.out; obtain ⟨Ao94, co94, eo94⟩ := Kd.V_slice HO825.out; subst eo94; have hnb95 := NB791_790.out; have hnc95 := NB790_791.out; have q96 := cf4 BK791.out))
        refine bodyPost_ret (results_ct rfl _ _ gb791 46 #[.int .u64 0, .int .i64 0, .string (⟨#[]⟩ : ByteArray), .slice none 0 0] (0, 0) _ rfl (by (iterate 4 ((with_reducible repeat (first | refine blk_drewN ?_ _ | refine blk_drew ?_ | refine blk_alloc ?_ _)); refine blk_put (cs := #[.int .u64 0, .int .i64 0, .string (⟨#[]⟩ : ByteArray), .slice none 0 0]) ?_ _ _ rfl)); (with_reducible repeat (first | refine blk_drewN ?_ _ | refine blk_drew ?_ | refine blk_alloc ?_ _)); refine blk_far ?_ NB791_827.out _; (with_reducible repeat (first | refine blk_drewN ?_ _ | refine blk_drew ?_ | refine blk_alloc ?_ _)); refine blk_far ?_ NB791_827.out _; (with_reducible repeat (first | refine blk_drewN ?_ _ | refine blk_drew ?_ | refine blk_alloc ?_ _)); refine blk_far ?_ NB791_827.out _; (with_reducible repeat (first | refine blk_drewN ?_ _ | refine blk_drew ?_ | refine blk_alloc ?_ _)); refine blk_far ?_ NB791_827.out _; (with_reducible repeat (first | refine blk_drewN ?_ _ | refine blk_drew ?_ | refine blk_alloc ?_ _)); exact BK791.out) Tryd.underlying46 rfl (by kernel_rfl)) rfl ?_
        exact ⟨_, pE, pZ, pB⟩
def minstrelref19_Plain.f (a0_0 : Int) (a0_1 : Int) (a0_2 : ByteArray) (l0_3 : List Int) : Option (Int × Int × ByteArray × List Int) := if a0_1 = 1 then (if a0_1 = 2 then ((some (([] : List Int) : List Int)).bind fun y832 => (if y832.length + l0_3.length < 17592186044416 then (some (a0_0, a0_1, a0_2, (y832 ++ l0_3))) else (none))) else (some (a0_0, a0_1, a0_2, ([] : List Int)))) else (if a0_1 = 2 then ((some (([] : List Int) : List Int)).bind fun y838 => (if y838.length + l0_3.length < 17592186044416 then (some (a0_0, a0_1, (⟨#[]⟩ : ByteArray), (y838 ++ l0_3))) else (none))) else (some (a0_0, a0_1, (⟨#[]⟩ : ByteArray), ([] : List Int))))
set_option maxHeartbeats 8000000 in
set_option maxRecDepth 100000 in
theorem minstrelref19_Plain.calls (a0_0 : Int) (a0_1 : Int) (a0_2 : ByteArray) (A0_3 : Option Addr) (c0_3 : Nat) (l0_3 : List Int) (r1 : Int) (r2 : Int) (r3 : ByteArray) (r4 : List Int) (w : World) (hr0_3 : Kd.C (Kd.int .i64) w A0_3 l0_3.length l0_3) (hc0_3 : l0_3.length ≤ c0_3) (h : minstrelref19_Plain.f a0_0 a0_1 a0_2 l0_3 = some (r1, r2, r3, r4)) :
  Calls Tryd.prog 24 #[.agg #[.int .u64 a0_0, .int .i64 a0_1, .string a0_2, .slice A0_3 l0_3.length c0_3]] w fun e w' => ∃ v3_ : Value, e = .returned (.agg #[.int .u64 r1, .int .i64 r2, .string r3, v3_]) ∧ Kd.R (Kd.int .i64) 3 w' w.heap.size (fun _ => True) v3_ r4 ∧ Below w.heap.size w w' := by
 have hu46 := Tryd.underlying46
 have HR0_3 := am hr0_3
 have HC0_3 := am hc0_3
 clear hr0_3 hc0_3
 have HB := am (Below.refl w.heap.size w)
 have H : (if a0_1 = 1 then (if a0_1 = 2 then ((some (([] : List Int) : List Int)).bind fun y832 => (if y832.length + l0_3.length < 17592186044416 then (some (a0_0, a0_1, a0_2, (y832 ++ l0_3))) else (none))) else (some (a0_0, a0_1, a0_2, ([] : List Int)))) else (if a0_1 = 2 then ((some (([] : List Int) : List Int)).bind fun y838 => (if y838.length + l0_3.length < 17592186044416 then (some (a0_0, a0_1, (⟨#[]⟩ : ByteArray), (y838 ++ l0_3))) else (none))) else (some (a0_0, a0_1, (⟨#[]⟩ : ByteArray), ([] : List Int))))) = some (r1, r2, r3, r4) := h
 clear h
 by_cases c2 : a0_1 = 1
 ·rw [if_pos c2] at H
  have c2b0 : (a0_1 == 1) = true := beq_iff_eq.mpr c2
  have c2b1 : (a0_1 != 1) = false := bne_eq_false_iff_eq.mpr c2
  clear c2
  by_cases c3 : a0_1 = 2
  ·rw [if_pos c3] at H
   have c3b0 : (a0_1 == 2) = true := beq_iff_eq.mpr c3
   have c3b1 : (a0_1 != 2) = false := bne_eq_false_iff_eq.mpr c3
   clear c3
   obtain ⟨y832, hy832⟩ : ∃ y_ : List Int, y_ = (([] : List Int)) := ⟨_, rfl⟩
   replace H : (if y832.length + l0_3.length < 17592186044416 then (some (a0_0, a0_1, a0_2, (y832 ++ l0_3))) else (none)) = some (r1, r2, r3, r4) := by first | (rw [hy832]; with_reducible exact H) | (have H2_ := (Option.bind_some _ _).symm.trans H; rw [hy832]; with_reducible exact H2_) | (have H2_ := (Option.bind_some _ _).symm.trans H; with_reducible exact H2_) | with_reducible exact H | (rw [hy832]; exact H) | exact H
   have Ny832 := am hy832
   clear hy832
   by_cases c4 : y832.length + l0_3.length < 17592186044416
   ·rw [if_pos c4] at H
    have LMc4 := am c4
    clear c4
    obtain ⟨y835, hy835⟩ : ∃ y_ : List Int, y_ = (y832 ++ l0_3) := ⟨_, rfl⟩
    replace H : (some (a0_0, a0_1, a0_2, y835)) = some (r1, r2, r3, r4) := by first | (rw [hy835]; with_reducible exact H) | (have H2_ := (Option.bind_some _ _).symm.trans H; rw [hy835]; with_reducible exact H2_) | (have H2_ := (Option.bind_some _ _).symm.trans H; with_reducible exact H2_) | with_reducible exact H | (rw [hy835]; exact H) | exact H
    have Ny835 := am hy835
    clear hy835
    simp only [Option.some.injEq, Prod.mk.injEq] at H
    obtain ⟨rfl, rfl, rfl, rfl⟩ := H
    go_enter Tryd.func24, Tryd.ntmps24
    go_wp2_with (first | ((with_reducible refine gate_dst (N := 1) rfl ?_); refine box_event ?hg (N := 1) ?hd (cs := #[.int .u64 a0_0, .int .i64 a0_1, .string a0_2, .slice A0_3 l0_3.length c0_3]) (t := 46) ?hr ?_; (case hd => rfl); (case hg => rfl); (case hr => first | (go_simp; done) | (go_simp; rfl)); intro gb829 hg w5 hbox hb; have BK829 := am (hbox); have GW829 := am ((by rw [hg]; exact (below_size pB) : w.heap.size ≤ gb829)); have GE829 := am ((by rw [hg]; exact (below_size pB) : w.heap.size ≤ gb829)); replace HB := am (below_step pB hb); clear hb hbox hg) | ((with_reducible refine gate_dst (N := 2) rfl ?_); refine box_event ?hg (N := 2) ?hd (cs := #[.int .u64 0, .int .i64 0, .string (⟨#[]⟩ : ByteArray), .slice none 0 0]) (t := 46) ?hr ?_; (case hd => rfl); (case hg => rfl); (case hr => first | (go_simp; done) | (go_simp; rfl)); intro gb830 hg w6 hbox hb; have BK830 := am (hbox); have GW830 := am ((by rw [hg]; exact (below_size pB) : w.heap.size ≤ gb830)); have GE830 := am ((by rw [hg]; exact (below_size pB) : w.heap.size ≤ gb830)); have NB829_830 := am ((by rw [hg]; exact Nat.ne_of_lt (pkl BK829.out) : gb829 ≠ gb830)); have NB830_829 := am ((by rw [hg]; exact Nat.ne_of_gt (pkl BK829.out) : gb830 ≠ gb829)); replace BK829 := am (pkb BK829.out hb); replace HB := am (below_step pB hb); clear hb hbox hg; have hnb7 := NB829_830.out; have hnc7 := NB830_829.out; have q8 := cf4 BK829.out) | ((with_reducible refine gate_dst (N := 3) rfl ?_); refine box_event ?hg (N := 3) ?hd (cs := #[.int .u64 0, .int .i64 0, .string (⟨#[]⟩ : ByteArray), .slice none 0 0]) (t := 46) ?hr ?_; (case hd => rfl); (case hg => rfl); (case hr => first | (go_simp; done) | (go_simp; rfl)); intro gb831 hg w9 hbox hb; have BK831 := am (hbox); have GW831 := am ((by rw [hg]; exact (below_size pB) : w.heap.size ≤ gb831)); have GE831 := am ((by rw [hg]; exact (below_size pB) : w.heap.size ≤ gb831)); have NB829_831 := am ((by rw [hg]; exact Nat.ne_of_lt (pkl BK829.out) : gb829 ≠ gb831)); have NB831_829 := am ((by rw [hg]; exact Nat.ne_of_gt (pkl BK829.out) : gb831 ≠ gb829)); replace BK829 := am (pkb BK829.out hb); have NB830_831 := am ((by rw [hg]; exact Nat.ne_of_lt (pkl BK830.out) : gb830 ≠ gb831)); have NB831_830 := am ((by rw [hg]; exact Nat.ne_of_gt (pkl BK830.out) : gb831 ≠ gb830)); replace BK830 := am (pkb BK830.out hb); replace HB := am (below_step pB hb); clear hb hbox hg; have hnb10 := NB831_829.out; have hnc10 := NB829_831.out; have hnb11 := NB831_830.out; have hnc11 := NB830_831.out; have q12 := cf4 BK831.out; have q13 := cf4 BK829.out) | ((with_reducible refine gate_dst (N := 18) rfl ?_); refine Kd.R_lit (Kd.int .i64) _ 3 ?hg (N := 18) ?hd (xs := ([] : List Int)) (inner := []) (ok := fun _ => True) (okp := fun _ => True) ?hr ?hp (fun _ hk => hk) trivial (Below.refl _ _) (Nat.le_refl _) (by simp) ?_; (case hd => rfl); (case hg => rfl); (case hr => first | (go_simp; done) | (go_simp; rfl)); (case hp => exact (Reps.none _ _)); intro v833 w14 ho15 hb hg_ hnew_; clear hg_ hnew_; (first | rw [← Ny832.out] at ho15 | (simp only [Int.reduceToNat] at ho15; rw [← Ny832.out] at ho15)); have HO834 := am (Kd.R_lower ho15 (below_size pB)); replace BK829 := am (blk_below (g := gb829) (o := .cells #[.int .u64 a0_0, .int .i64 a0_1, .string a0_2, .slice A0_3 l0_3.length c0_3] 46 (0, 0)) (by (with_reducible repeat (first | refine blk_drewN ?_ _ | refine blk_drew ?_ | refine blk_alloc ?_ _)); refine blk_far ?_ NB829_831.out _; (with_reducible repeat (first | refine blk_drewN ?_ _ | refine blk_drew ?_ | refine blk_alloc ?_ _)); refine blk_far ?_ NB829_831.out _; (with_reducible repeat (first | refine blk_drewN ?_ _ | refine blk_drew ?_ | refine blk_alloc ?_ _)); refine blk_far ?_ NB829_831.out _; (with_reducible repeat (first | refine blk_drewN ?_ _ | refine blk_drew ?_ | refine blk_alloc ?_ _)); refine blk_far ?_ NB829_831.out _; (with_reducible repeat (first | refine blk_drewN ?_ _ | refine blk_drew ?_ | refine blk_alloc ?_ _)); refine blk_far ?_ NB829_831.out _; (with_reducible repeat (first | refine blk_drewN ?_ _ | refine blk_drew ?_ | refine blk_alloc ?_ _)); exact BK829.out) hb); replace BK830 := am (blk_below (g := gb830) (o := .cells #[.int .u64 0, .int .i64 0, .string (⟨#[]⟩ : ByteArray), .slice none 0 0] 46 (0, 0)) (by (with_reducible repeat (first | refine blk_drewN ?_ _ | refine blk_drew ?_ | refine blk_alloc ?_ _)); refine blk_far ?_ NB830_831.out _; (with_reducible repeat (first | refine blk_drewN ?_ _ | refine blk_drew ?_ | refine blk_alloc ?_ _)); refine blk_far ?_ NB830_831.out _; (with_reducible repeat (first | refine blk_drewN ?_ _ | refine blk_drew ?_ | refine blk_alloc ?_ _)); refine blk_far ?_ NB830_831.out _; (with_reducible repeat (first | refine blk_drewN ?_ _ | refine blk_drew ?_ | refine blk_alloc ?_ _)); refine blk_far ?_ NB830_831.out _; (with_reducible repeat (first | refine blk_drewN ?_ _ | refine blk_drew ?_ | refine blk_alloc ?_ _)); refine blk_far ?_ NB830_831.out _; (with_reducible repeat (first | refine blk_drewN ?_ _ | refine blk_drew ?_ | refine blk_alloc ?_ _)); exact BK830.out) hb); replace BK831 := am (blk_below (g := gb831) (o := .cells #[.int .u64 a0_0, .int .i64 a0_1, .string a0_2, .slice none 0 0] 46 (0, 0)) (by (iterate 3 ((with_reducible repeat (first | refine blk_drewN ?_ _ | refine blk_drew ?_ | refine blk_alloc ?_ _)); refine blk_put (cs := #[.int .u64 a0_0, .int .i64 a0_1, .string (⟨#[]⟩ : ByteArray), .slice none 0 0]) ?_ _ _ rfl)); (with_reducible repeat (first | refine blk_drewN ?_ _ | refine blk_drew ?_ | refine blk_alloc ?_ _)); refine blk_put (cs := #[.int .u64 a0_0, .int .i64 0, .string (⟨#[]⟩ : ByteArray), .slice none 0 0]) ?_ 1 _ rfl; (with_reducible repeat (first | refine blk_drewN ?_ _ | refine blk_drew ?_ | refine blk_alloc ?_ _)); refine blk_put (cs := #[.int .u64 0, .int .i64 0, .string (⟨#[]⟩ : ByteArray), .slice none 0 0]) ?_ 0 _ rfl; (with_reducible repeat (first | refine blk_drewN ?_ _ | refine blk_drew ?_ | refine blk_alloc ?_ _)); exact BK831.out) hb); replace HB := am (below_step pB hb); clear hb ho15; have q16 := cf4 BK829.out) | ((with_reducible refine gate_builtin (b := .append) (xs := #[.tmp 18, .tmp 20]) rfl ?_); at_builtin; refine Kd.R_append_rows (Kd.int .i64) (w0 := w) w.heap.size rfl (.tmp 18) (.tmp 20) 23 3 (.int .i64 0) 8 rfl Tryd.underlying23 info3 rfl (by decide) (by omega) v833 y832 l0_3 _ _ _ (fun _ => True) (fun _ => False) rfl rfl ?aO ?aR (fun _ _ h => h) (fun _ h => h.elim) ?aF ?aB ?aS ?aL ?_; (case aR => exact pC (Kd.C_below HR0_3.out HB.out)); (case aB => exact pB); (case aF => exact (fun _ _ => trivial)); (case aO => exact (pR HO834.out)); (case aS => exact (below_size pB)); (case aL => have := LMc4.out; omega); intro v836 w17 ho hb hg hat; rw [← Ny835.out] at ho; replace BK829 := am (blk_grown (g := gb829) (o := .cells #[.int .u64 a0_0, .int .i64 a0_1, .string a0_2, .slice A0_3 l0_3.length c0_3] 46 (0, 0)) (pK BK829.out) hg (pX HO834.out BK829.out)); replace BK830 := am (blk_grown (g := gb830) (o := .cells #[.int .u64 0, .int .i64 0, .string (⟨#[]⟩ : ByteArray), .slice none 0 0] 46 (0, 0)) (pK BK830.out) hg (pX HO834.out BK830.out)); replace BK831 := am (blk_grown (g := gb831) (o := .cells #[.int .u64 a0_0, .int .i64 a0_1, .string a0_2, .slice none 0 0] 46 (0, 0)) (pK BK831.out) hg (pX HO834.out BK831.out)); replace HB := am (hb); have HO837 := am (ho); clear HO834; clear ho hb hg hat; obtain ⟨Ao18, co18, eo18⟩ := Kd.R_slice HO837.out; subst eo18; have q19 := cf4 BK831.out; have q20 := cf4 BK830.out))
    refine bodyPost_ret (results_cell_row rfl _ _ gb830 46 #[.int .u64 a0_0, .int .i64 a0_1, .string a0_2, .slice Ao18 y835.length co18] (0, 0) _ rfl (by (with_reducible repeat (first | refine blk_drewN ?_ _ | refine blk_drew ?_ | refine blk_alloc ?_ _)); refine blk_put (cs := #[.int .u64 a0_0, .int .i64 a0_1, .string a0_2, .slice none 0 0]) ?_ 3 _ rfl; (with_reducible repeat (first | refine blk_drewN ?_ _ | refine blk_drew ?_ | refine blk_alloc ?_ _)); refine blk_put (cs := #[.int .u64 a0_0, .int .i64 a0_1, .string (⟨#[]⟩ : ByteArray), .slice none 0 0]) ?_ 2 _ rfl; (with_reducible repeat (first | refine blk_drewN ?_ _ | refine blk_drew ?_ | refine blk_alloc ?_ _)); refine blk_put (cs := #[.int .u64 a0_0, .int .i64 0, .string (⟨#[]⟩ : ByteArray), .slice none 0 0]) ?_ 1 _ rfl; (with_reducible repeat (first | refine blk_drewN ?_ _ | refine blk_drew ?_ | refine blk_alloc ?_ _)); refine blk_put (cs := #[.int .u64 0, .int .i64 0, .string (⟨#[]⟩ : ByteArray), .slice none 0 0]) ?_ 0 _ rfl; (with_reducible repeat (first | refine blk_drewN ?_ _ | refine blk_drew ?_ | refine blk_alloc ?_ _)); refine blk_far ?_ NB830_831.out _; (with_reducible repeat (first | refine blk_drewN ?_ _ | refine blk_drew ?_ | refine blk_alloc ?_ _)); exact BK830.out) Tryd.underlying46 rfl (by kernel_rfl)) rfl ?_
    exact ⟨_, pE, by (with_reducible repeat (first | apply Kd.R_alloc | apply Kd.R_drewN | apply Kd.R_drew)); exact Kd.R_mono (Kd.R_far (p := ⟨gb830, 3, none⟩) (Kd.R_far (p := ⟨gb830, 2, none⟩) (Kd.R_far (p := ⟨gb830, 1, none⟩) (Kd.R_far (p := ⟨gb830, 0, none⟩) (Kd.R_far (p := ⟨gb831, 3, none⟩) (Kd.R_types (Kd.R_types HO837.out BK831.out (by decide)) BK830.out (by decide)) (fun _ hk => hk.1.2) (.slice Ao18 y835.length co18)) (fun _ hk => hk.2) (.int .u64 a0_0)) (fun _ hk => hk.2) (.int .i64 a0_1)) (fun _ hk => hk.2) (.string a0_2)) (fun _ hk => hk.2) (.slice Ao18 y835.length co18)) (fun _ hk => trivial), pB⟩
   ·rw [if_neg c4] at H
    exact absurd H (by simp)
  ·rw [if_neg c3] at H
   have c3b0 : (a0_1 == 2) = false := beq_eq_false_iff_ne.mpr c3
   have c3b1 : (a0_1 != 2) = true := bne_iff_ne.mpr c3
   simp only [Option.some.injEq, Prod.mk.injEq] at H
   obtain ⟨rfl, rfl, rfl, rfl⟩ := H
   go_enter Tryd.func24, Tryd.ntmps24
   go_upto_if 17 with (first | ((with_reducible refine gate_dst (N := 1) rfl ?_); refine box_event ?hg (N := 1) ?hd (cs := #[.int .u64 a0_0, .int .i64 a0_1, .string a0_2, .slice A0_3 l0_3.length c0_3]) (t := 46) ?hr ?_; (case hd => rfl); (case hg => rfl); (case hr => first | (go_simp; done) | (go_simp; rfl)); intro gb829 hg w21 hbox hb; have BK829 := am (hbox); have GW829 := am ((by rw [hg]; exact (below_size pB) : w.heap.size ≤ gb829)); have GE829 := am ((by rw [hg]; exact (below_size pB) : w.heap.size ≤ gb829)); replace HB := am (below_step pB hb); clear hb hbox hg) | ((with_reducible refine gate_dst (N := 2) rfl ?_); refine box_event ?hg (N := 2) ?hd (cs := #[.int .u64 0, .int .i64 0, .string (⟨#[]⟩ : ByteArray), .slice none 0 0]) (t := 46) ?hr ?_; (case hd => rfl); (case hg => rfl); (case hr => first | (go_simp; done) | (go_simp; rfl)); intro gb830 hg w22 hbox hb; have BK830 := am (hbox); have GW830 := am ((by rw [hg]; exact (below_size pB) : w.heap.size ≤ gb830)); have GE830 := am ((by rw [hg]; exact (below_size pB) : w.heap.size ≤ gb830)); have NB829_830 := am ((by rw [hg]; exact Nat.ne_of_lt (pkl BK829.out) : gb829 ≠ gb830)); have NB830_829 := am ((by rw [hg]; exact Nat.ne_of_gt (pkl BK829.out) : gb830 ≠ gb829)); replace BK829 := am (pkb BK829.out hb); replace HB := am (below_step pB hb); clear hb hbox hg; have hnb23 := NB829_830.out; have hnc23 := NB830_829.out; have q24 := cf4 BK829.out) | ((with_reducible refine gate_dst (N := 3) rfl ?_); refine box_event ?hg (N := 3) ?hd (cs := #[.int .u64 0, .int .i64 0, .string (⟨#[]⟩ : ByteArray), .slice none 0 0]) (t := 46) ?hr ?_; (case hd => rfl); (case hg => rfl); (case hr => first | (go_simp; done) | (go_simp; rfl)); intro gb831 hg w25 hbox hb; have BK831 := am (hbox); have GW831 := am ((by rw [hg]; exact (below_size pB) : w.heap.size ≤ gb831)); have GE831 := am ((by rw [hg]; exact (below_size pB) : w.heap.size ≤ gb831)); have NB829_831 := am ((by rw [hg]; exact Nat.ne_of_lt (pkl BK829.out) : gb829 ≠ gb831)); have NB831_829 := am ((by rw [hg]; exact Nat.ne_of_gt (pkl BK829.out) : gb831 ≠ gb829)); replace BK829 := am (pkb BK829.out hb); have NB830_831 := am ((by rw [hg]; exact Nat.ne_of_lt (pkl BK830.out) : gb830 ≠ gb831)); have NB831_830 := am ((by rw [hg]; exact Nat.ne_of_gt (pkl BK830.out) : gb831 ≠ gb830)); replace BK830 := am (pkb BK830.out hb); replace HB := am (below_step pB hb); clear hb hbox hg; have hnb26 := NB831_829.out; have hnc26 := NB829_831.out; have hnb27 := NB831_830.out; have hnc27 := NB830_831.out; have q28 := cf4 BK831.out; have q29 := cf4 BK829.out; have q30 := cf4 BK830.out))
   have n0_ : Aside0 ((((((w25.setCell ⟨gb831, 0, none⟩ (.int .u64 a0_0)).setCell ⟨gb831, 1, none⟩ (.int .i64 a0_1)).setCell ⟨gb831, 2, none⟩ (.string (⟨#[]⟩ : ByteArray))).setCell ⟨gb831, 3, none⟩ (.slice none 0 0)).setCell ⟨gb831, 2, none⟩ (.string a0_2)).heap[gb829]? = some (.cells #[.int .u64 a0_0, .int .i64 a0_1, .string a0_2, .slice A0_3 l0_3.length c0_3] 46 (0, 0))) := ⟨by (iterate 5 (refine blk_far ?_ NB829_831.out _)); exact BK829.out⟩
   have n1_ : Aside0 ((((((w25.setCell ⟨gb831, 0, none⟩ (.int .u64 a0_0)).setCell ⟨gb831, 1, none⟩ (.int .i64 a0_1)).setCell ⟨gb831, 2, none⟩ (.string (⟨#[]⟩ : ByteArray))).setCell ⟨gb831, 3, none⟩ (.slice none 0 0)).setCell ⟨gb831, 2, none⟩ (.string a0_2)).heap[gb830]? = some (.cells #[.int .u64 0, .int .i64 0, .string (⟨#[]⟩ : ByteArray), .slice none 0 0] 46 (0, 0))) := ⟨by (iterate 5 (refine blk_far ?_ NB830_831.out _)); exact BK830.out⟩
   have n2_ : Aside0 ((((((w25.setCell ⟨gb831, 0, none⟩ (.int .u64 a0_0)).setCell ⟨gb831, 1, none⟩ (.int .i64 a0_1)).setCell ⟨gb831, 2, none⟩ (.string (⟨#[]⟩ : ByteArray))).setCell ⟨gb831, 3, none⟩ (.slice none 0 0)).setCell ⟨gb831, 2, none⟩ (.string a0_2)).heap[gb831]? = some (.cells #[.int .u64 a0_0, .int .i64 a0_1, .string a0_2, .slice none 0 0] 46 (0, 0))) := ⟨by refine blk_put (cs := #[.int .u64 a0_0, .int .i64 a0_1, .string (⟨#[]⟩ : ByteArray), .slice none 0 0]) ?_ 2 _ rfl; refine blk_put (cs := #[.int .u64 a0_0, .int .i64 a0_1, .string (⟨#[]⟩ : ByteArray), .slice none 0 0]) ?_ 3 _ rfl; refine blk_put (cs := #[.int .u64 a0_0, .int .i64 a0_1, .string (⟨#[]⟩ : ByteArray), .slice none 0 0]) ?_ 2 _ rfl; refine blk_put (cs := #[.int .u64 a0_0, .int .i64 0, .string (⟨#[]⟩ : ByteArray), .slice none 0 0]) ?_ 1 _ rfl; refine blk_put (cs := #[.int .u64 0, .int .i64 0, .string (⟨#[]⟩ : ByteArray), .slice none 0 0]) ?_ 0 _ rfl; exact BK831.out⟩
   have n3_ : Aside0 (Below w.heap.size w (((((w25.setCell ⟨gb831, 0, none⟩ (.int .u64 a0_0)).setCell ⟨gb831, 1, none⟩ (.int .i64 a0_1)).setCell ⟨gb831, 2, none⟩ (.string (⟨#[]⟩ : ByteArray))).setCell ⟨gb831, 3, none⟩ (.slice none 0 0)).setCell ⟨gb831, 2, none⟩ (.string a0_2))) := ⟨pB⟩
   clear BK829 BK830 BK831 HB
   generalize (((((w25.setCell ⟨gb831, 0, none⟩ (.int .u64 a0_0)).setCell ⟨gb831, 1, none⟩ (.int .i64 a0_1)).setCell ⟨gb831, 2, none⟩ (.string (⟨#[]⟩ : ByteArray))).setCell ⟨gb831, 3, none⟩ (.slice none 0 0)).setCell ⟨gb831, 2, none⟩ (.string a0_2)) = w77 at n0_ n1_ n2_ n3_ ⊢
   have BK829 := n0_; have BK830 := n1_; have BK831 := n2_; have HB := n3_; clear n0_ n1_ n2_ n3_ q24 q28 q29 q30
   have q34 := cf4 BK829.out
   have q35 := cf4 BK830.out
   have q36 := cf4 BK831.out
   go_wp2
   refine bodyPost_ret (results_cell_row rfl _ _ gb830 46 #[.int .u64 a0_0, .int .i64 a0_1, .string a0_2, .slice none 0 0] (0, 0) _ rfl (by refine blk_put (cs := #[.int .u64 a0_0, .int .i64 a0_1, .string a0_2, .slice none 0 0]) ?_ 3 _ rfl; refine blk_put (cs := #[.int .u64 a0_0, .int .i64 a0_1, .string (⟨#[]⟩ : ByteArray), .slice none 0 0]) ?_ 2 _ rfl; refine blk_put (cs := #[.int .u64 a0_0, .int .i64 0, .string (⟨#[]⟩ : ByteArray), .slice none 0 0]) ?_ 1 _ rfl; refine blk_put (cs := #[.int .u64 0, .int .i64 0, .string (⟨#[]⟩ : ByteArray), .slice none 0 0]) ?_ 0 _ rfl; exact BK830.out) Tryd.underlying46 rfl (by kernel_rfl)) rfl ?_
   exact ⟨_, pE, pZ, pB⟩
 ·rw [if_neg c2] at H
  have c2b0 : (a0_1 == 1) = false := beq_eq_false_iff_ne.mpr c2
  have c2b1 : (a0_1 != 1) = true := bne_iff_ne.mpr c2
  by_cases c31 : a0_1 = 2
  ·rw [if_pos c31] at H
   have c31b0 : (a0_1 == 2) = true := beq_iff_eq.mpr c31
   have c31b1 : (a0_1 != 2) = false := bne_eq_false_iff_eq.mpr c31
   clear c31
   obtain ⟨y838, hy838⟩ : ∃ y_ : List Int, y_ = (([] : List Int)) := ⟨_, rfl⟩
   replace H : (if y838.length + l0_3.length < 17592186044416 then (some (a0_0, a0_1, (⟨#[]⟩ : ByteArray), (y838 ++ l0_3))) else (none)) = some (r1, r2, r3, r4) := by first | (rw [hy838]; with_reducible exact H) | (have H2_ := (Option.bind_some _ _).symm.trans H; rw [hy838]; with_reducible exact H2_) | (have H2_ := (Option.bind_some _ _).symm.trans H; with_reducible exact H2_) | with_reducible exact H | (rw [hy838]; exact H) | exact H
   have Ny838 := am hy838
   clear hy838
   by_cases c32 : y838.length + l0_3.length < 17592186044416
   ·rw [if_pos c32] at H
    have LMc32 := am c32
    clear c32
    obtain ⟨y841, hy841⟩ : ∃ y_ : List Int, y_ = (y838 ++ l0_3) := ⟨_, rfl⟩
    replace H : (some (a0_0, a0_1, (⟨#[]⟩ : ByteArray), y841)) = some (r1, r2, r3, r4) := by first | (rw [hy841]; with_reducible exact H) | (have H2_ := (Option.bind_some _ _).symm.trans H; rw [hy841]; with_reducible exact H2_) | (have H2_ := (Option.bind_some _ _).symm.trans H; with_reducible exact H2_) | with_reducible exact H | (rw [hy841]; exact H) | exact H
    have Ny841 := am hy841
    clear hy841
    simp only [Option.some.injEq, Prod.mk.injEq] at H
    obtain ⟨rfl, rfl, rfl, rfl⟩ := H
    go_enter Tryd.func24, Tryd.ntmps24
    go_wp2_with (first | ((with_reducible refine gate_dst (N := 1) rfl ?_); refine box_event ?hg (N := 1) ?hd (cs := #[.int .u64 a0_0, .int .i64 a0_1, .string a0_2, .slice A0_3 l0_3.length c0_3]) (t := 46) ?hr ?_; (case hd => rfl); (case hg => rfl); (case hr => first | (go_simp; done) | (go_simp; rfl)); intro gb829 hg w33 hbox hb; have BK829 := am (hbox); have GW829 := am ((by rw [hg]; exact (below_size pB) : w.heap.size ≤ gb829)); have GE829 := am ((by rw [hg]; exact (below_size pB) : w.heap.size ≤ gb829)); replace HB := am (below_step pB hb); clear hb hbox hg) | ((with_reducible refine gate_dst (N := 2) rfl ?_); refine box_event ?hg (N := 2) ?hd (cs := #[.int .u64 0, .int .i64 0, .string (⟨#[]⟩ : ByteArray), .slice none 0 0]) (t := 46) ?hr ?_; (case hd => rfl); (case hg => rfl); (case hr => first | (go_simp; done) | (go_simp; rfl)); intro gb830 hg w34 hbox hb; have BK830 := am (hbox); have GW830 := am ((by rw [hg]; exact (below_size pB) : w.heap.size ≤ gb830)); have GE830 := am ((by rw [hg]; exact (below_size pB) : w.heap.size ≤ gb830)); have NB829_830 := am ((by rw [hg]; exact Nat.ne_of_lt (pkl BK829.out) : gb829 ≠ gb830)); have NB830_829 := am ((by rw [hg]; exact Nat.ne_of_gt (pkl BK829.out) : gb830 ≠ gb829)); replace BK829 := am (pkb BK829.out hb); replace HB := am (below_step pB hb); clear hb hbox hg; have hnb35 := NB829_830.out; have hnc35 := NB830_829.out; have q36 := cf4 BK829.out) | ((with_reducible refine gate_dst (N := 3) rfl ?_); refine box_event ?hg (N := 3) ?hd (cs := #[.int .u64 0, .int .i64 0, .string (⟨#[]⟩ : ByteArray), .slice none 0 0]) (t := 46) ?hr ?_; (case hd => rfl); (case hg => rfl); (case hr => first | (go_simp; done) | (go_simp; rfl)); intro gb831 hg w37 hbox hb; have BK831 := am (hbox); have GW831 := am ((by rw [hg]; exact (below_size pB) : w.heap.size ≤ gb831)); have GE831 := am ((by rw [hg]; exact (below_size pB) : w.heap.size ≤ gb831)); have NB829_831 := am ((by rw [hg]; exact Nat.ne_of_lt (pkl BK829.out) : gb829 ≠ gb831)); have NB831_829 := am ((by rw [hg]; exact Nat.ne_of_gt (pkl BK829.out) : gb831 ≠ gb829)); replace BK829 := am (pkb BK829.out hb); have NB830_831 := am ((by rw [hg]; exact Nat.ne_of_lt (pkl BK830.out) : gb830 ≠ gb831)); have NB831_830 := am ((by rw [hg]; exact Nat.ne_of_gt (pkl BK830.out) : gb831 ≠ gb830)); replace BK830 := am (pkb BK830.out hb); replace HB := am (below_step pB hb); clear hb hbox hg; have hnb38 := NB831_829.out; have hnc38 := NB829_831.out; have hnb39 := NB831_830.out; have hnc39 := NB830_831.out; have q40 := cf4 BK831.out; have q41 := cf4 BK829.out) | ((with_reducible refine gate_dst (N := 18) rfl ?_); refine Kd.R_lit (Kd.int .i64) _ 3 ?hg (N := 18) ?hd (xs := ([] : List Int)) (inner := []) (ok := fun _ => True) (okp := fun _ => True) ?hr ?hp (fun _ hk => hk) trivial (Below.refl _ _) (Nat.le_refl _) (by simp) ?_; (case hd => rfl); (case hg => rfl); (case hr => first | (go_simp; done) | (go_simp; rfl)); (case hp => exact (Reps.none _ _)); intro v839 w42 ho43 hb hg_ hnew_; clear hg_ hnew_; (first | rw [← Ny838.out] at ho43 | (simp only [Int.reduceToNat] at ho43; rw [← Ny838.out] at ho43)); have HO840 := am (Kd.R_lower ho43 (below_size pB)); replace BK829 := am (blk_below (g := gb829) (o := .cells #[.int .u64 a0_0, .int .i64 a0_1, .string a0_2, .slice A0_3 l0_3.length c0_3] 46 (0, 0)) (by (with_reducible repeat (first | refine blk_drewN ?_ _ | refine blk_drew ?_ | refine blk_alloc ?_ _)); refine blk_far ?_ NB829_831.out _; (with_reducible repeat (first | refine blk_drewN ?_ _ | refine blk_drew ?_ | refine blk_alloc ?_ _)); refine blk_far ?_ NB829_831.out _; (with_reducible repeat (first | refine blk_drewN ?_ _ | refine blk_drew ?_ | refine blk_alloc ?_ _)); refine blk_far ?_ NB829_831.out _; (with_reducible repeat (first | refine blk_drewN ?_ _ | refine blk_drew ?_ | refine blk_alloc ?_ _)); refine blk_far ?_ NB829_831.out _; (with_reducible repeat (first | refine blk_drewN ?_ _ | refine blk_drew ?_ | refine blk_alloc ?_ _)); exact BK829.out) hb); replace BK830 := am (blk_below (g := gb830) (o := .cells #[.int .u64 0, .int .i64 0, .string (⟨#[]⟩ : ByteArray), .slice none 0 0] 46 (0, 0)) (by (with_reducible repeat (first | refine blk_drewN ?_ _ | refine blk_drew ?_ | refine blk_alloc ?_ _)); refine blk_far ?_ NB830_831.out _; (with_reducible repeat (first | refine blk_drewN ?_ _ | refine blk_drew ?_ | refine blk_alloc ?_ _)); refine blk_far ?_ NB830_831.out _; (with_reducible repeat (first | refine blk_drewN ?_ _ | refine blk_drew ?_ | refine blk_alloc ?_ _)); refine blk_far ?_ NB830_831.out _; (with_reducible repeat (first | refine blk_drewN ?_ _ | refine blk_drew ?_ | refine blk_alloc ?_ _)); refine blk_far ?_ NB830_831.out _; (with_reducible repeat (first | refine blk_drewN ?_ _ | refine blk_drew ?_ | refine blk_alloc ?_ _)); exact BK830.out) hb); replace BK831 := am (blk_below (g := gb831) (o := .cells #[.int .u64 a0_0, .int .i64 a0_1, .string (⟨#[]⟩ : ByteArray), .slice none 0 0] 46 (0, 0)) (by (iterate 2 ((with_reducible repeat (first | refine blk_drewN ?_ _ | refine blk_drew ?_ | refine blk_alloc ?_ _)); refine blk_put (cs := #[.int .u64 a0_0, .int .i64 a0_1, .string (⟨#[]⟩ : ByteArray), .slice none 0 0]) ?_ _ _ rfl)); (with_reducible repeat (first | refine blk_drewN ?_ _ | refine blk_drew ?_ | refine blk_alloc ?_ _)); refine blk_put (cs := #[.int .u64 a0_0, .int .i64 0, .string (⟨#[]⟩ : ByteArray), .slice none 0 0]) ?_ 1 _ rfl; (with_reducible repeat (first | refine blk_drewN ?_ _ | refine blk_drew ?_ | refine blk_alloc ?_ _)); refine blk_put (cs := #[.int .u64 0, .int .i64 0, .string (⟨#[]⟩ : ByteArray), .slice none 0 0]) ?_ 0 _ rfl; (with_reducible repeat (first | refine blk_drewN ?_ _ | refine blk_drew ?_ | refine blk_alloc ?_ _)); exact BK831.out) hb); replace HB := am (below_step pB hb); clear hb ho43; have q44 := cf4 BK829.out) | ((with_reducible refine gate_builtin (b := .append) (xs := #[.tmp 18, .tmp 20]) rfl ?_); at_builtin; refine Kd.R_append_rows (Kd.int .i64) (w0 := w) w.heap.size rfl (.tmp 18) (.tmp 20) 23 3 (.int .i64 0) 8 rfl Tryd.underlying23 info3 rfl (by decide) (by omega) v839 y838 l0_3 _ _ _ (fun _ => True) (fun _ => False) rfl rfl ?aO ?aR (fun _ _ h => h) (fun _ h => h.elim) ?aF ?aB ?aS ?aL ?_; (case aR => exact pC (Kd.C_below HR0_3.out HB.out)); (case aB => exact pB); (case aF => exact (fun _ _ => trivial)); (case aO => exact (pR HO840.out)); (case aS => exact (below_size pB)); (case aL => have := LMc32.out; omega); intro v842 w45 ho hb hg hat; rw [← Ny841.out] at ho; replace BK829 := am (blk_grown (g := gb829) (o := .cells #[.int .u64 a0_0, .int .i64 a0_1, .string a0_2, .slice A0_3 l0_3.length c0_3] 46 (0, 0)) (pK BK829.out) hg (pX HO840.out BK829.out)); replace BK830 := am (blk_grown (g := gb830) (o := .cells #[.int .u64 0, .int .i64 0, .string (⟨#[]⟩ : ByteArray), .slice none 0 0] 46 (0, 0)) (pK BK830.out) hg (pX HO840.out BK830.out)); replace BK831 := am (blk_grown (g := gb831) (o := .cells #[.int .u64 a0_0, .int .i64 a0_1, .string (⟨#[]⟩ : ByteArray), .slice none 0 0] 46 (0, 0)) (pK BK831.out) hg (pX HO840.out BK831.out)); replace HB := am (hb); have HO843 := am (ho); clear HO840; clear ho hb hg hat; obtain ⟨Ao46, co46, eo46⟩ := Kd.R_slice HO843.out; subst eo46; have q47 := cf4 BK831.out; have q48 := cf4 BK830.out))
    refine bodyPost_ret (results_cell_row rfl _ _ gb830 46 #[.int .u64 a0_0, .int .i64 a0_1, .string (⟨#[]⟩ : ByteArray), .slice Ao46 y841.length co46] (0, 0) _ rfl (by (iterate 2 ((with_reducible repeat (first | refine blk_drewN ?_ _ | refine blk_drew ?_ | refine blk_alloc ?_ _)); refine blk_put (cs := #[.int .u64 a0_0, .int .i64 a0_1, .string (⟨#[]⟩ : ByteArray), .slice none 0 0]) ?_ _ _ rfl)); (with_reducible repeat (first | refine blk_drewN ?_ _ | refine blk_drew ?_ | refine blk_alloc ?_ _)); refine blk_put (cs := #[.int .u64 a0_0, .int .i64 0, .string (⟨#[]⟩ : ByteArray), .slice none 0 0]) ?_ 1 _ rfl; (with_reducible repeat (first | refine blk_drewN ?_ _ | refine blk_drew ?_ | refine blk_alloc ?_ _)); refine blk_put (cs := #[.int .u64 0, .int .i64 0, .string (⟨#[]⟩ : ByteArray), .slice none 0 0]) ?_ 0 _ rfl; (with_reducible repeat (first | refine blk_drewN ?_ _ | refine blk_drew ?_ | refine blk_alloc ?_ _)); refine blk_far ?_ NB830_831.out _; (with_reducible repeat (first | refine blk_drewN ?_ _ | refine blk_drew ?_ | refine blk_alloc ?_ _)); exact BK830.out) Tryd.underlying46 rfl (by kernel_rfl)) rfl ?_
    exact ⟨_, pE, by (with_reducible repeat (first | apply Kd.R_alloc | apply Kd.R_drewN | apply Kd.R_drew)); exact Kd.R_mono (Kd.R_far (p := ⟨gb830, 3, none⟩) (Kd.R_far (p := ⟨gb830, 2, none⟩) (Kd.R_far (p := ⟨gb830, 1, none⟩) (Kd.R_far (p := ⟨gb830, 0, none⟩) (Kd.R_far (p := ⟨gb831, 3, none⟩) (Kd.R_types (Kd.R_types HO843.out BK831.out (by decide)) BK830.out (by decide)) (fun _ hk => hk.1.2) (.slice Ao46 y841.length co46)) (fun _ hk => hk.2) (.int .u64 a0_0)) (fun _ hk => hk.2) (.int .i64 a0_1)) (fun _ hk => hk.2) (.string (⟨#[]⟩ : ByteArray))) (fun _ hk => hk.2) (.slice Ao46 y841.length co46)) (fun _ hk => trivial), pB⟩
   ·rw [if_neg c32] at H
    exact absurd H (by simp)
  ·rw [if_neg c31] at H
   have c31b0 : (a0_1 == 2) = false := beq_eq_false_iff_ne.mpr c31
   have c31b1 : (a0_1 != 2) = true := bne_iff_ne.mpr c31
   simp only [Option.some.injEq, Prod.mk.injEq] at H
   obtain ⟨rfl, rfl, rfl, rfl⟩ := H
   go_enter Tryd.func24, Tryd.ntmps24
   go_wp2_with (first | ((with_reducible refine gate_dst (N := 1) rfl ?_); refine box_event ?hg (N := 1) ?hd (cs := #[.int .u64 a0_0, .int .i64 a0_1, .string a0_2, .slice A0_3 l0_3.length c0_3]) (t := 46) ?hr ?_; (case hd => rfl); (case hg => rfl); (case hr => first | (go_simp; done) | (go_simp; rfl)); intro gb829 hg w49 hbox hb; have BK829 := am (hbox); have GW829 := am ((by rw [hg]; exact (below_size pB) : w.heap.size ≤ gb829)); have GE829 := am ((by rw [hg]; exact (below_size pB) : w.heap.size ≤ gb829)); replace HB := am (below_step pB hb); clear hb hbox hg) | ((with_reducible refine gate_dst (N := 2) rfl ?_); refine box_event ?hg (N := 2) ?hd (cs := #[.int .u64 0, .int .i64 0, .string (⟨#[]⟩ : ByteArray), .slice none 0 0]) (t := 46) ?hr ?_; (case hd => rfl); (case hg => rfl); (case hr => first | (go_simp; done) | (go_simp; rfl)); intro gb830 hg w50 hbox hb; have BK830 := am (hbox); have GW830 := am ((by rw [hg]; exact (below_size pB) : w.heap.size ≤ gb830)); have GE830 := am ((by rw [hg]; exact (below_size pB) : w.heap.size ≤ gb830)); have NB829_830 := am ((by rw [hg]; exact Nat.ne_of_lt (pkl BK829.out) : gb829 ≠ gb830)); have NB830_829 := am ((by rw [hg]; exact Nat.ne_of_gt (pkl BK829.out) : gb830 ≠ gb829)); replace BK829 := am (pkb BK829.out hb); replace HB := am (below_step pB hb); clear hb hbox hg; have hnb51 := NB829_830.out; have hnc51 := NB830_829.out; have q52 := cf4 BK829.out) | ((with_reducible refine gate_dst (N := 3) rfl ?_); refine box_event ?hg (N := 3) ?hd (cs := #[.int .u64 0, .int .i64 0, .string (⟨#[]⟩ : ByteArray), .slice none 0 0]) (t := 46) ?hr ?_; (case hd => rfl); (case hg => rfl); (case hr => first | (go_simp; done) | (go_simp; rfl)); intro gb831 hg w53 hbox hb; have BK831 := am (hbox); have GW831 := am ((by rw [hg]; exact (below_size pB) : w.heap.size ≤ gb831)); have GE831 := am ((by rw [hg]; exact (below_size pB) : w.heap.size ≤ gb831)); have NB829_831 := am ((by rw [hg]; exact Nat.ne_of_lt (pkl BK829.out) : gb829 ≠ gb831)); have NB831_829 := am ((by rw [hg]; exact Nat.ne_of_gt (pkl BK829.out) : gb831 ≠ gb829)); replace BK829 := am (pkb BK829.out hb); have NB830_831 := am ((by rw [hg]; exact Nat.ne_of_lt (pkl BK830.out) : gb830 ≠ gb831)); have NB831_830 := am ((by rw [hg]; exact Nat.ne_of_gt (pkl BK830.out) : gb831 ≠ gb830)); replace BK830 := am (pkb BK830.out hb); replace HB := am (below_step pB hb); clear hb hbox hg; have hnb54 := NB831_829.out; have hnc54 := NB829_831.out; have hnb55 := NB831_830.out; have hnc55 := NB830_831.out; have q56 := cf4 BK831.out; have q57 := cf4 BK829.out; have q58 := cf4 BK830.out))
   refine bodyPost_ret (results_cell_row rfl _ _ gb830 46 #[.int .u64 a0_0, .int .i64 a0_1, .string (⟨#[]⟩ : ByteArray), .slice none 0 0] (0, 0) _ rfl (by (iterate 2 ((with_reducible repeat (first | refine blk_drewN ?_ _ | refine blk_drew ?_ | refine blk_alloc ?_ _)); refine blk_put (cs := #[.int .u64 a0_0, .int .i64 a0_1, .string (⟨#[]⟩ : ByteArray), .slice none 0 0]) ?_ _ _ rfl)); (with_reducible repeat (first | refine blk_drewN ?_ _ | refine blk_drew ?_ | refine blk_alloc ?_ _)); refine blk_put (cs := #[.int .u64 a0_0, .int .i64 0, .string (⟨#[]⟩ : ByteArray), .slice none 0 0]) ?_ 1 _ rfl; (with_reducible repeat (first | refine blk_drewN ?_ _ | refine blk_drew ?_ | refine blk_alloc ?_ _)); refine blk_put (cs := #[.int .u64 0, .int .i64 0, .string (⟨#[]⟩ : ByteArray), .slice none 0 0]) ?_ 0 _ rfl; (with_reducible repeat (first | refine blk_drewN ?_ _ | refine blk_drew ?_ | refine blk_alloc ?_ _)); refine blk_far ?_ NB830_831.out _; (with_reducible repeat (first | refine blk_drewN ?_ _ | refine blk_drew ?_ | refine blk_alloc ?_ _)); refine blk_far ?_ NB830_831.out _; (with_reducible repeat (first | refine blk_drewN ?_ _ | refine blk_drew ?_ | refine blk_alloc ?_ _)); refine blk_far ?_ NB830_831.out _; (with_reducible repeat (first | refine blk_drewN ?_ _ | refine blk_drew ?_ | refine blk_alloc ?_ _)); refine blk_far ?_ NB830_831.out _; (with_reducible repeat (first | refine blk_drewN ?_ _ | refine blk_drew ?_ | refine blk_alloc ?_ _)); exact BK830.out) Tryd.underlying46 rfl (by kernel_rfl)) rfl ?_
   exact ⟨_, pE, pZ, pB⟩
end Go.Proofs.YtlkaffbgekbcfaaDoor.Pr
end
