/- A part of the proof of the law that RowSnapLoads shows: lemmas, and contracts of the calls that it reaches. -/
import Derived.Test.YtlkaffbgekbcfaaDoorProg
import Derived.Below
import Derived.Deep.Draws
import Derived.Deep.AppendLies
import Derived.Maps.AppendAt
import Derived.OwnWalk
import Derived.Laws.BytesArg
import Derived.Laws.MakeOwn
import Derived.Laws.OwnMore
import Derived.Deep.OwnRows
import Derived.Tactics
import Derived.Lib.ConvBytes
import Derived.Laws.Slices
import Derived.WalkKit
import Derived.KernelRfl
import Derived.RowKit3
import Derived.Deep.LoopGhost
import Derived.Deep.QuietTactic
import Derived.BigQuiet
import Derived.WideLaws
import Derived.Deep.DeepCutAuto
import Derived.Deep.CutBlock
import Derived.Deep.RegionHeld3
import Derived.Laws.Rows
import Derived.Lib.AppendStr
import Derived.ArgAppend
import Derived.Laws.IdiomCopy
import Derived.OrdersHeld
import Derived.Laws.BitsLemmas
import Derived.RowKit
import Derived.Test.YtlkaffbgekbcfaaDoorZC0
import Derived.Test.YtlkaffbgekbcfaaDoorZC1
set_option linter.unusedVariables false
set_option linter.unusedSimpArgs false
section
namespace Go.Proofs.YtlkaffbgekbcfaaDoor.Pr
open Go.RowKit Go.Proofs.YtlkaffbgekbcfaaDoorW.PrintWords Go.Proofs.YtlkaffbgekbcfaaDoorW.PrintLast Go.Proofs.YtlkaffbgekbcfaaDoorW.PrintMore
attribute [local go_sem] max2_int min2_int max_two min_two max_three min_three max_four min_four
mutual
def minstrelref07_Same.l0 : Nat → Int → Int → Int → ByteArray → List (S26) → Int → Int → ByteArray → List (S26) → Option (Bool)
 | 0, _, _, _, _, _, _, _, _, _ => none
 | k + 1, x5, x397000, x397001, x397002, x397003, x398000, x398001, x398002, x398003 => if x5 < (x397003.length : Int) then (if 0 ≤ x5 then (if x5 < (x398003.length : Int) then ((minstrelref07_Same.f k ((rd_T26 x397003 x5).f0) ((rd_T26 x397003 x5).f1) ((rd_T26 x397003 x5).f2) ((rd_T26 x397003 x5).f3) ((rd_T26 x398003 x5).f0) ((rd_T26 x398003 x5).f1) ((rd_T26 x398003 x5).f2) ((rd_T26 x398003 x5).f3)).bind fun t400 => (if t400 = true then (minstrelref07_Same.l0 k (wrap64 (x5 + 1)) x397000 x397001 x397002 x397003 x398000 x398001 x398002 x398003) else (some false))) else (none)) else (none)) else (some true)
def minstrelref07_Same.f : Nat → Int → Int → ByteArray → List (S26) → Int → Int → ByteArray → List (S26) → Option (Bool)
 | 0, _, _, _, _, _, _, _, _ => none
 | k + 1, a0_0, a0_1, a0_2, l0_3, a1_0, a1_1, a1_2, l1_3 => if a0_0 = a1_0 then (if a0_0 = 0 then (some (a0_1 == a1_1)) else (if a0_0 = 1 then (some (a0_2.toList == a1_2.toList)) else (if a0_0 = 2 then (if (l0_3.length : Int) = (l1_3.length : Int) then (minstrelref07_Same.l0 k 0 a0_0 a0_1 a0_2 l0_3 a1_0 a1_1 a1_2 l1_3) else (some false)) else (some true)))) else (some false)
end
theorem minstrelref07_Same.mono_l : ∀ k, (∀ y0 y1 y2 y3 y4 y5 y6 y7, LeO (minstrelref07_Same.f k y0 y1 y2 y3 y4 y5 y6 y7) (minstrelref07_Same.f (k + 1) y0 y1 y2 y3 y4 y5 y6 y7)) ∧ (∀ y0 y1 y2 y3 y4 y5 y6 y7 y8, LeO (minstrelref07_Same.l0 k y0 y1 y2 y3 y4 y5 y6 y7 y8) (minstrelref07_Same.l0 (k + 1) y0 y1 y2 y3 y4 y5 y6 y7 y8))
 | 0 => ⟨fun _ _ _ _ _ _ _ _ r h => by simp [minstrelref07_Same.f] at h, fun _ _ _ _ _ _ _ _ _ r h => by simp [minstrelref07_Same.l0] at h⟩
 | k + 1 => by
  obtain ⟨ih0, ih1⟩ := minstrelref07_Same.mono_l k
  refine ⟨?_, ?_⟩
  ·intro y0 y1 y2 y3 y4 y5 y6 y7
   unfold minstrelref07_Same.f
   repeat' first
   | (with_reducible exact ih0 _ _ _ _ _ _ _ _)
   | (with_reducible exact ih1 _ _ _ _ _ _ _ _ _)
   | (with_reducible exact LeO.refl _)
   | (with_reducible exact LeO.none _)
   | (with_reducible refine LeO.ite ?_ ?_)
   | (with_reducible refine LeO.bind ?_ (fun _ => ?_))
   | exact ih0 _ _ _ _ _ _ _ _
   | exact ih1 _ _ _ _ _ _ _ _ _
   | exact LeO.none _
   | refine LeO.ite ?_ ?_
   | refine LeO.bind ?_ (fun _ => ?_)
  ·intro y0 y1 y2 y3 y4 y5 y6 y7 y8
   unfold minstrelref07_Same.l0
   repeat' first
   | (with_reducible exact ih0 _ _ _ _ _ _ _ _)
   | (with_reducible exact ih1 _ _ _ _ _ _ _ _ _)
   | (with_reducible exact LeO.refl _)
   | (with_reducible exact LeO.none _)
   | (with_reducible refine LeO.ite ?_ ?_)
   | (with_reducible refine LeO.bind ?_ (fun _ => ?_))
   | exact ih0 _ _ _ _ _ _ _ _
   | exact ih1 _ _ _ _ _ _ _ _ _
   | exact LeO.none _
   | refine LeO.ite ?_ ?_
   | refine LeO.bind ?_ (fun _ => ?_)
theorem minstrelref07_Same.mono : ∀ a0 a1 a2 a3 a4 a5 a6 a7 k, LeO (minstrelref07_Same.f k a0 a1 a2 a3 a4 a5 a6 a7) (minstrelref07_Same.f (k + 1) a0 a1 a2 a3 a4 a5 a6 a7) := by
 intro a0 a1 a2 a3 a4 a5 a6 a7 k
 obtain ⟨ih0, ih1⟩ := minstrelref07_Same.mono_l k
 exact ih0 a0 a1 a2 a3 a4 a5 a6 a7
def minstrelref07_Same.T13 : Bool × List (List Nat × List Nat) := (true, [([], []), ([0], [0]), ([], []), ([1, 2], [1, 2]), ([3], [3]), ([], []), ([5], [5]), ([], []), ([6, 7], [6, 7]), ([8], [8]), ([4, 9], [4, 9]), ([10], [10])])
def minstrelref07_Same.B13 : List Nat := [0, 1, 0, 7, 15, 0, 32, 0, 224, 480, 1023, 2047]
theorem minstrelref07_Same.tab13 : rtab .any (opsOf Tryd.f19 13) = minstrelref07_Same.T13 := by kernel_rfl
theorem minstrelref07_Same.bits13 : waitsOk minstrelref07_Same.T13.2 minstrelref07_Same.B13 = true := by kernel_rfl
set_option maxHeartbeats 8000000 in
set_option maxRecDepth 100000 in
theorem minstrelref07_Same.calls (k : Nat) : ∀ (a0_0 : Int) (a0_1 : Int) (a0_2 : ByteArray) (A0_3 : Option Addr) (c0_3 : Nat) (l0_3 : List (S26)) (a1_0 : Int) (a1_1 : Int) (a1_2 : ByteArray) (A1_3 : Option Addr) (c1_3 : Nat) (l1_3 : List (S26)) (r : Bool) (w : World) (hr0_3 : Kd.C k26 w A0_3 l0_3.length l0_3) (hc0_3 : l0_3.length ≤ c0_3) (hr1_3 : Kd.C k26 w A1_3 l1_3.length l1_3) (hc1_3 : l1_3.length ≤ c1_3) (h : minstrelref07_Same.f k a0_0 a0_1 a0_2 l0_3 a1_0 a1_1 a1_2 l1_3 = some r),
  Calls Tryd.prog 19 #[.agg #[.int .i64 a0_0, .int .u64 a0_1, .string a0_2, .slice A0_3 l0_3.length c0_3], .agg #[.int .i64 a1_0, .int .u64 a1_1, .string a1_2, .slice A1_3 l1_3.length c1_3]] w fun e w' => e = .returned (.bool r) ∧ Below w.heap.size w w' := by
 induction k using Nat.strongRecOn with
 | _ k ih =>
 intro a0_0 a0_1 a0_2 A0_3 c0_3 l0_3 a1_0 a1_1 a1_2 A1_3 c1_3 l1_3 r w hr0_3 hc0_3 hr1_3 hc1_3 h
 cases k with
 | zero => exact absurd h (by simp [minstrelref07_Same.f])
 | succ k =>
 simp only [minstrelref07_Same.f] at h
 have hu26 := Tryd.underlying26
 have HR0_3 := am hr0_3
 have HC0_3 := am hc0_3
 clear hr0_3 hc0_3
 have HR1_3 := am hr1_3
 have HC1_3 := am hc1_3
 clear hr1_3 hc1_3
 have HB := am (Below.refl w.heap.size w)
 have H : (if a0_0 = a1_0 then (if a0_0 = 0 then (some (a0_1 == a1_1)) else (if a0_0 = 1 then (some (a0_2.toList == a1_2.toList)) else (if a0_0 = 2 then (if (l0_3.length : Int) = (l1_3.length : Int) then (minstrelref07_Same.l0 k 0 a0_0 a0_1 a0_2 l0_3 a1_0 a1_1 a1_2 l1_3) else (some false)) else (some true)))) else (some false)) = some r := h
 clear h
 by_cases c3 : a0_0 = a1_0
 ·rw [if_pos c3] at H
  have c3b0 : (a0_0 == a1_0) = true := beq_iff_eq.mpr c3
  have c3b1 : (a0_0 != a1_0) = false := bne_eq_false_iff_eq.mpr c3
  clear c3
  by_cases c4 : a0_0 = 0
  ·rw [if_pos c4] at H
   have c4b0 : (a0_0 == 0) = true := beq_iff_eq.mpr c4
   have c4b1 : (a0_0 != 0) = false := bne_eq_false_iff_eq.mpr c4
   clear c4
   obtain rfl := Option.some.inj H
   go_enter Tryd.func19, Tryd.ntmps19
   go_wp2_with (first | ((with_reducible refine gate_dst (N := 2) rfl ?_); refine box_event ?hg (N := 2) ?hd (cs := #[.int .i64 a0_0, .int .u64 a0_1, .string a0_2, .slice A0_3 l0_3.length c0_3]) (t := 26) ?hr ?_; (case hd => rfl); (case hg => rfl); (case hr => first | (go_simp; done) | (go_simp; rfl)); intro gb396 hg w5 hbox hb; have BK396 := am (hbox); have GW396 := am ((by rw [hg]; exact (below_size pB) : w.heap.size ≤ gb396)); have GE396 := am ((by rw [hg]; exact (below_size pB) : w.heap.size ≤ gb396)); replace HB := am (below_step pB hb); clear hb hbox hg) | ((with_reducible refine gate_dst (N := 3) rfl ?_); refine box_event ?hg (N := 3) ?hd (cs := #[.int .i64 a1_0, .int .u64 a1_1, .string a1_2, .slice A1_3 l1_3.length c1_3]) (t := 26) ?hr ?_; (case hd => rfl); (case hg => rfl); (case hr => first | (go_simp; done) | (go_simp; rfl)); intro gb397 hg w6 hbox hb; have BK397 := am (hbox); have GW397 := am ((by rw [hg]; exact (below_size pB) : w.heap.size ≤ gb397)); have GE397 := am ((by rw [hg]; exact (below_size pB) : w.heap.size ≤ gb397)); have NB396_397 := am ((by rw [hg]; exact Nat.ne_of_lt (pkl BK396.out) : gb396 ≠ gb397)); have NB397_396 := am ((by rw [hg]; exact Nat.ne_of_gt (pkl BK396.out) : gb397 ≠ gb396)); replace BK396 := am (pkb BK396.out hb); replace HB := am (below_step pB hb); clear hb hbox hg; have hnb7 := NB396_397.out; have hnc7 := NB397_396.out; have q8 := cf4 BK396.out; have q9 := cf4 BK397.out))
   go_ret
   exact ⟨pE, pB⟩
  ·rw [if_neg c4] at H
   have c4b0 : (a0_0 == 0) = false := beq_eq_false_iff_ne.mpr c4
   have c4b1 : (a0_0 != 0) = true := bne_iff_ne.mpr c4
   by_cases c10 : a0_0 = 1
   ·rw [if_pos c10] at H
    have c10b0 : (a0_0 == 1) = true := beq_iff_eq.mpr c10
    have c10b1 : (a0_0 != 1) = false := bne_eq_false_iff_eq.mpr c10
    clear c10
    obtain rfl := Option.some.inj H
    go_enter Tryd.func19, Tryd.ntmps19
    go_wp2_with (first | ((with_reducible refine gate_dst (N := 2) rfl ?_); refine box_event ?hg (N := 2) ?hd (cs := #[.int .i64 a0_0, .int .u64 a0_1, .string a0_2, .slice A0_3 l0_3.length c0_3]) (t := 26) ?hr ?_; (case hd => rfl); (case hg => rfl); (case hr => first | (go_simp; done) | (go_simp; rfl)); intro gb396 hg w11 hbox hb; have BK396 := am (hbox); have GW396 := am ((by rw [hg]; exact (below_size pB) : w.heap.size ≤ gb396)); have GE396 := am ((by rw [hg]; exact (below_size pB) : w.heap.size ≤ gb396)); replace HB := am (below_step pB hb); clear hb hbox hg) | ((with_reducible refine gate_dst (N := 3) rfl ?_); refine box_event ?hg (N := 3) ?hd (cs := #[.int .i64 a1_0, .int .u64 a1_1, .string a1_2, .slice A1_3 l1_3.length c1_3]) (t := 26) ?hr ?_; (case hd => rfl); (case hg => rfl); (case hr => first | (go_simp; done) | (go_simp; rfl)); intro gb397 hg w12 hbox hb; have BK397 := am (hbox); have GW397 := am ((by rw [hg]; exact (below_size pB) : w.heap.size ≤ gb397)); have GE397 := am ((by rw [hg]; exact (below_size pB) : w.heap.size ≤ gb397)); have NB396_397 := am ((by rw [hg]; exact Nat.ne_of_lt (pkl BK396.out) : gb396 ≠ gb397)); have NB397_396 := am ((by rw [hg]; exact Nat.ne_of_gt (pkl BK396.out) : gb397 ≠ gb396)); replace BK396 := am (pkb BK396.out hb); replace HB := am (below_step pB hb); clear hb hbox hg; have hnb13 := NB396_397.out; have hnc13 := NB397_396.out; have q14 := cf4 BK396.out; have q15 := cf4 BK397.out))
    go_ret
    exact ⟨pE, pB⟩
   ·rw [if_neg c10] at H
    have c10b0 : (a0_0 == 1) = false := beq_eq_false_iff_ne.mpr c10
    have c10b1 : (a0_0 != 1) = true := bne_iff_ne.mpr c10
    by_cases c16 : a0_0 = 2
    ·rw [if_pos c16] at H
     have c16b0 : (a0_0 == 2) = true := beq_iff_eq.mpr c16
     have c16b1 : (a0_0 != 2) = false := bne_eq_false_iff_eq.mpr c16
     clear c16
     by_cases c17 : (l0_3.length : Int) = (l1_3.length : Int)
     ·rw [if_pos c17] at H
      have c17b0 : ((l0_3.length : Int) == (l1_3.length : Int)) = true := beq_iff_eq.mpr c17
      have c17b1 : ((l0_3.length : Int) != (l1_3.length : Int)) = false := bne_eq_false_iff_eq.mpr c17
      have c17b2 : (l0_3.length == l1_3.length) = true := by first | simpa using c17 | (simp at c17 ⊢; omega)
      clear c17
      have H' := am H
      clear H
      go_enter Tryd.func19, Tryd.ntmps19
      go_wp2_with (first | ((with_reducible refine gate_dst (N := 2) rfl ?_); refine box_event ?hg (N := 2) ?hd (cs := #[.int .i64 a0_0, .int .u64 a0_1, .string a0_2, .slice A0_3 l0_3.length c0_3]) (t := 26) ?hr ?_; (case hd => rfl); (case hg => rfl); (case hr => first | (go_simp; done) | (go_simp; rfl)); intro gb396 hg w18 hbox hb; have BK396 := am (hbox); have GW396 := am ((by rw [hg]; exact (below_size pB) : w.heap.size ≤ gb396)); have GE396 := am ((by rw [hg]; exact (below_size pB) : w.heap.size ≤ gb396)); replace HB := am (below_step pB hb); clear hb hbox hg) | ((with_reducible refine gate_dst (N := 3) rfl ?_); refine box_event ?hg (N := 3) ?hd (cs := #[.int .i64 a1_0, .int .u64 a1_1, .string a1_2, .slice A1_3 l1_3.length c1_3]) (t := 26) ?hr ?_; (case hd => rfl); (case hg => rfl); (case hr => first | (go_simp; done) | (go_simp; rfl)); intro gb397 hg w19 hbox hb; have BK397 := am (hbox); have GW397 := am ((by rw [hg]; exact (below_size pB) : w.heap.size ≤ gb397)); have GE397 := am ((by rw [hg]; exact (below_size pB) : w.heap.size ≤ gb397)); have NB396_397 := am ((by rw [hg]; exact Nat.ne_of_lt (pkl BK396.out) : gb396 ≠ gb397)); have NB397_396 := am ((by rw [hg]; exact Nat.ne_of_gt (pkl BK396.out) : gb397 ≠ gb396)); replace BK396 := am (pkb BK396.out hb); replace HB := am (below_step pB hb); clear hb hbox hg; have hnb20 := NB396_397.out; have hnc20 := NB397_396.out; have q21 := cf4 BK396.out; have q22 := cf4 BK397.out))
      go_loopg [5] k (fun kq v5 w' => ∃ (x5_1 : Int), v5 = .int .i64 x5_1 ∧ Aside0 (minstrelref07_Same.l0 kq x5_1 a0_0 a0_1 a0_2 l0_3 a1_0 a1_1 a1_2 l1_3 = some r) ∧ Aside0 (kq ≤ k) ∧ Aside0 (w'.heap[gb396]? = some (.cells #[.int .i64 a0_0, .int .u64 a0_1, .string a0_2, (.slice A0_3 l0_3.length c0_3)] 26 (0, 0))) ∧ Aside0 (w'.heap[gb397]? = some (.cells #[.int .i64 a1_0, .int .u64 a1_1, .string a1_2, (.slice A1_3 l1_3.length c1_3)] 26 (0, 0))) ∧ Aside0 (Below w.heap.size w w'))
      case atStart => exact ⟨(0), (by first | rfl | (simp; done) | (simp [*]; done)), H', ⟨Nat.le_refl _⟩, ⟨by (with_reducible repeat (first | refine blk_drewN ?_ _ | refine blk_drew ?_ | refine blk_alloc ?_ _)); exact BK396.out⟩, ⟨by (with_reducible repeat (first | refine blk_drewN ?_ _ | refine blk_drew ?_ | refine blk_alloc ?_ _)); exact BK397.out⟩, ⟨pB⟩⟩
      case round =>
       clear H'
       try clear c1
       try clear c2
       try clear p2
       try clear c3
       try clear c3b0
       try clear c3b1
       try clear c4
       try clear c4b0
       try clear c4b1
       try clear c7
       try clear c10
       try clear c10b0
       try clear c10b1
       try clear c13
       try clear c16
       try clear c16b0
       try clear c16b1
       try clear c17
       try clear c17b0
       try clear c17b1
       try clear c17b2
       try clear c19
       try clear c20
       try clear q14 q15 q21 q22 q8 q9
       obtain ⟨x5_1, rfl, HA, HK1, BK396, BK397, HB⟩ := hrel
       cases gk with
       | zero => exact absurd HA.out (by simp [minstrelref07_Same.l0])
       | succ k1 =>
        have H := HA.out
        clear HA
        simp only [minstrelref07_Same.l0] at H
        by_cases c23 : x5_1 < (l0_3.length : Int)
        ·rw [if_pos c23] at H
         have c23b0 : decide (x5_1 < (l0_3.length : Int)) = true := decide_eq_true c23
         clear c23
         by_cases c24 : 0 ≤ x5_1
         ·rw [if_pos c24] at H
          have c24b0 : decide (0 ≤ x5_1) = true := decide_eq_true c24
          clear c24
          by_cases c25 : x5_1 < (l1_3.length : Int)
          ·rw [if_pos c25] at H
           have c25b0 : decide (x5_1 < (l1_3.length : Int)) = true := decide_eq_true c25
           clear c25
           replace H := Option.bind_eq_some_iff.mp H
           obtain ⟨t400, A260, H⟩ := H
           try dsimp only at H
           have A26 := am A260
           clear A260
           by_cases c27 : t400 = true
           ·subst c27
            rw [if_pos rfl] at H
            have H' := am H
            clear H
            have hnb28 := NB396_397.out
            have hnc28 := NB397_396.out
            have q29 := cf4 BK396.out
            try go_wp2
            replace BK396 := am (blk_drew BK396.out)
            replace BK397 := am (blk_drew BK397.out)
            replace HB := am (below_drew1 HB.out)
            have p398 : 0 ≤ (x5_1 : Int) := pD
            have q398 : x5_1 < (l0_3.length : Int) := pD
            obtain ⟨ad398, A398_3, c398_3, e398, hx398_0, hx398_1, hx398_2, hx398_3, hl398_3, hi398_3⟩ := at_T26 HR0_3.out x5_1 p398 q398
            have hw398_3 := hx398_3
            have hw398_2 := hx398_2
            have hw398_1 := hx398_1
            have hw398_0 := hx398_0
            cases e398
            replace hx398_0 := (HB.out.cell (World.block_lt_of_cell? w _ hx398_0)).trans hx398_0
            replace hx398_1 := (HB.out.cell (World.block_lt_of_cell? w _ hx398_1)).trans hx398_1
            replace hx398_2 := (HB.out.cell (World.block_lt_of_cell? w _ hx398_2)).trans hx398_2
            replace hx398_3 := (HB.out.cell (World.block_lt_of_cell? w _ hx398_3)).trans hx398_3
            have HR398_3 := am hi398_3
            have HC398_3 := am hl398_3
            clear hi398_3 hl398_3
            replace p398 := eq_true p398
            replace q398 := eq_true q398
            have p399 : 0 ≤ (x5_1 : Int) := pD
            have q399 : x5_1 < (l1_3.length : Int) := pD
            obtain ⟨ad399, A399_3, c399_3, e399, hx399_0, hx399_1, hx399_2, hx399_3, hl399_3, hi399_3⟩ := at_T26 HR1_3.out x5_1 p399 q399
            have hw399_3 := hx399_3
            have hw399_2 := hx399_2
            have hw399_1 := hx399_1
            have hw399_0 := hx399_0
            cases e399
            replace hx399_0 := (HB.out.cell (World.block_lt_of_cell? w _ hx399_0)).trans hx399_0
            replace hx399_1 := (HB.out.cell (World.block_lt_of_cell? w _ hx399_1)).trans hx399_1
            replace hx399_2 := (HB.out.cell (World.block_lt_of_cell? w _ hx399_2)).trans hx399_2
            replace hx399_3 := (HB.out.cell (World.block_lt_of_cell? w _ hx399_3)).trans hx399_3
            have HR399_3 := am hi399_3
            have HC399_3 := am hl399_3
            clear hi399_3 hl399_3
            replace p399 := eq_true p399
            replace q399 := eq_true q399
            refine start_ (n := 12) (S := fun w' => w'.cell? ⟨gb396, 0, none⟩ = some (.int .i64 a0_0) ∧ w'.cell? ⟨gb396, 1, none⟩ = some (.int .u64 a0_1) ∧ w'.cell? ⟨gb396, 2, none⟩ = some (.string a0_2) ∧ w'.cell? ⟨gb396, 3, none⟩ = some (.slice (some ad398) l0_3.length c0_3) ∧ w'.cell? ⟨gb397, 0, none⟩ = some (.int .i64 a1_0) ∧ w'.cell? ⟨gb397, 1, none⟩ = some (.int .u64 a1_1) ∧ w'.cell? ⟨gb397, 2, none⟩ = some (.string a1_2) ∧ w'.cell? ⟨gb397, 3, none⟩ = some (.slice (some ad399) l1_3.length c1_3) ∧ w'.cell? (ad398.add ((x5_1).toNat * 4)) = some (.int .i64 ((rd_T26 l0_3 x5_1).f0)) ∧ w'.cell? ⟨(ad398.add ((x5_1).toNat * 4)).block, (ad398.add ((x5_1).toNat * 4)).off + 1, none⟩ = some (.int .u64 ((rd_T26 l0_3 x5_1).f1)) ∧ w'.cell? ⟨(ad398.add ((x5_1).toNat * 4)).block, (ad398.add ((x5_1).toNat * 4)).off + 2, none⟩ = some (.string ((rd_T26 l0_3 x5_1).f2)) ∧ w'.cell? ⟨(ad398.add ((x5_1).toNat * 4)).block, (ad398.add ((x5_1).toNat * 4)).off + 3, none⟩ = some (.slice A398_3 ((rd_T26 l0_3 x5_1).f3).length c398_3) ∧ w'.cell? (ad399.add ((x5_1).toNat * 4)) = some (.int .i64 ((rd_T26 l1_3 x5_1).f0)) ∧ w'.cell? ⟨(ad399.add ((x5_1).toNat * 4)).block, (ad399.add ((x5_1).toNat * 4)).off + 1, none⟩ = some (.int .u64 ((rd_T26 l1_3 x5_1).f1)) ∧ w'.cell? ⟨(ad399.add ((x5_1).toNat * 4)).block, (ad399.add ((x5_1).toNat * 4)).off + 2, none⟩ = some (.string ((rd_T26 l1_3 x5_1).f2)) ∧ w'.cell? ⟨(ad399.add ((x5_1).toNat * 4)).block, (ad399.add ((x5_1).toNat * 4)).off + 3, none⟩ = some (.slice A399_3 ((rd_T26 l1_3 x5_1).f3).length c399_3)) (ds := []) (bm 12 0) (by kernel_rfl) rfl rfl ⟨cz0 BK396.out, cz1 BK396.out, cz2 BK396.out, cz3 BK396.out, cz0 BK397.out, cz1 BK397.out, cz2 BK397.out, cz3 BK397.out, ((HB.out.cell (World.block_lt_of_cell? w _ hw398_0)).trans hw398_0), ((HB.out.cell (World.block_lt_of_cell? w _ hw398_1)).trans hw398_1), ((HB.out.cell (World.block_lt_of_cell? w _ hw398_2)).trans hw398_2), ((HB.out.cell (World.block_lt_of_cell? w _ hw398_3)).trans hw398_3), ((HB.out.cell (World.block_lt_of_cell? w _ hw399_0)).trans hw399_0), ((HB.out.cell (World.block_lt_of_cell? w _ hw399_1)).trans hw399_1), ((HB.out.cell (World.block_lt_of_cell? w _ hw399_2)).trans hw399_2), ((HB.out.cell (World.block_lt_of_cell? w _ hw399_3)).trans hw399_3)⟩ (fun hHeld => ?_); refine with_tabW minstrelref07_Same.tab13 minstrelref07_Same.bits13 (fun HT_ HW_ => ?_)
            generalize wr.drew = w30 at BK396 BK397 HB HR398_3 HR399_3 hx398_0 hx398_1 hx398_2 hx398_3 hx399_0 hx399_1 hx399_2 hx399_3 hHeld ⊢
            refine pure_ (i := 0) (N := some 44) (v := ?_) (a' := ?_) (bm 12 1) rfl rfl (any_of HT_.out (by kernel_rfl)) (fun _ _ _ h => h) (Or.inl ⟨by kernel_rfl, ?_⟩) ?_ ?_
            rotate_left
            ·intro w'
             go_simp
             with_reducible rfl
            rotate_left
            ·exact pA
            refine pure_ (i := 2) (N := some 46) (v := ?_) (a' := ?_) (bm 12 5) rfl rfl (any_of HT_.out (by kernel_rfl)) (fun _ _ _ h => h) (Or.inl ⟨by kernel_rfl, ?_⟩) ?_ ?_
            rotate_left
            ·intro w'
             go_simp
             with_reducible rfl
            rotate_left
            ·exact pA
            refine pure_ (i := 5) (N := some 49) (v := ?_) (a' := ?_) (bm 12 37) rfl rfl (any_of HT_.out (by kernel_rfl)) (fun _ _ _ h => h) (Or.inl ⟨by kernel_rfl, ?_⟩) ?_ ?_
            rotate_left
            ·intro w'
             go_simp
             with_reducible rfl
            rotate_left
            ·exact pA
            refine pure_ (i := 7) (N := some 51) (v := ?_) (a' := ?_) (bm 12 165) rfl rfl (any_of HT_.out (by kernel_rfl)) (fun _ _ _ h => h) (Or.inl ⟨by kernel_rfl, ?_⟩) ?_ ?_
            rotate_left
            ·intro w'
             go_simp
             with_reducible rfl
            rotate_left
            ·exact pA
            refine take_ (i := 1) (N := some 45) (v := ?_) (a' := ?_) (bm 12 167) rfl rfl (take_ofW HT_.out HW_.out (by kernel_rfl)) (fun _ _ _ h => h) (Or.inl ⟨by kernel_rfl, ?_⟩) hHeld ?_ ?_
            rotate_left
            ·rintro w' ⟨s0, s1, s2, s3, s4, s5, s6, s7, s8, s9, s10, s11, s12, s13, s14, s15⟩
             go_simp
             with_reducible rfl
            rotate_left
            ·exact pA
            refine pure_ (i := 3) (N := some 47) (v := ?_) (a' := ?_) (bm 12 175) rfl rfl (any_of HT_.out (by kernel_rfl)) (fun _ _ _ h => h) (Or.inl ⟨by kernel_rfl, ?_⟩) ?_ ?_
            rotate_left
            ·intro w'
             go_simp
             with_reducible rfl
            rotate_left
            ·exact pA
            refine take_ (i := 4) (N := some 48) (v := ?_) (a' := ?_) (bm 12 191) rfl rfl (take_ofW HT_.out HW_.out (by kernel_rfl)) (fun _ _ _ h => h) (Or.inl ⟨by kernel_rfl, ?_⟩) hHeld ?_ ?_
            rotate_left
            ·rintro w' ⟨s0, s1, s2, s3, s4, s5, s6, s7, s8, s9, s10, s11, s12, s13, s14, s15⟩
             go_simp
             with_reducible rfl
            rotate_left
            ·exact pA
            refine take_ (i := 6) (N := some 50) (v := ?_) (a' := ?_) (bm 12 255) rfl rfl (take_ofW HT_.out HW_.out (by kernel_rfl)) (fun _ _ _ h => h) (Or.inl ⟨by kernel_rfl, ?_⟩) hHeld ?_ ?_
            rotate_left
            ·rintro w' ⟨s0, s1, s2, s3, s4, s5, s6, s7, s8, s9, s10, s11, s12, s13, s14, s15⟩
             go_simp
             with_reducible rfl
            rotate_left
            ·exact pA
            refine pure_ (i := 8) (N := some 52) (v := ?_) (a' := ?_) (bm 12 511) rfl rfl (any_of HT_.out (by kernel_rfl)) (fun _ _ _ h => h) (Or.inl ⟨by kernel_rfl, ?_⟩) ?_ ?_
            rotate_left
            ·intro w'
             go_simp
             with_reducible rfl
            rotate_left
            ·exact pA
            refine take_ (i := 9) (N := some 53) (v := ?_) (a' := ?_) (bm 12 1023) rfl rfl (take_ofW HT_.out HW_.out (by kernel_rfl)) (fun _ _ _ h => h) (Or.inl ⟨by kernel_rfl, ?_⟩) hHeld ?_ ?_
            rotate_left
            ·rintro w' ⟨s0, s1, s2, s3, s4, s5, s6, s7, s8, s9, s10, s11, s12, s13, s14, s15⟩
             go_simp
             with_reducible rfl
            rotate_left
            ·exact pA
            refine one_ (i := 10) (N := some 54) (bm 12 2047) rfl rfl (one_of HT_.out (by kernel_rfl)) (by decide) (fun K hK => ?_)
            refine goes_ Tryd.func19 (by kernel_rfl) rfl #[.agg #[.int .i64 ((rd_T26 l0_3 x5_1).f0), .int .u64 ((rd_T26 l0_3 x5_1).f1), .string ((rd_T26 l0_3 x5_1).f2), .slice A398_3 ((rd_T26 l0_3 x5_1).f3).length c398_3], .agg #[.int .i64 ((rd_T26 l1_3 x5_1).f0), .int .u64 ((rd_T26 l1_3 x5_1).f1), .string ((rd_T26 l1_3 x5_1).f2), .slice A399_3 ((rd_T26 l1_3 x5_1).f3).length c399_3]] (by rfl) rfl rfl pM ?_
            with_reducible refine (ih k1 (by have := HK1.out; omega) ((rd_T26 l0_3 x5_1).f0) ((rd_T26 l0_3 x5_1).f1) ((rd_T26 l0_3 x5_1).f2) _ _ ((rd_T26 l0_3 x5_1).f3) ((rd_T26 l1_3 x5_1).f0) ((rd_T26 l1_3 x5_1).f1) ((rd_T26 l1_3 x5_1).f2) _ _ ((rd_T26 l1_3 x5_1).f3) true _ ?side1 ?side2 ?side3 ?side4 A26.out).mono ?_
            (case side1 => exact pC (Kd.C_below HR398_3.out HB.out))
            (case side2 => exact HC398_3.out)
            (case side3 => exact pC (Kd.C_below HR399_3.out HB.out))
            (case side4 => exact HC399_3.out)
            rintro e w31 ⟨rfl, hb⟩
            refine ⟨_, rfl, ?_⟩
            have n0_ := am (pkb BK396.out hb)
            have n1_ := am (pkb BK397.out hb)
            have n2_ := am (below_step pB hb)
            clear BK396 BK397 HB; have BK396 := n0_; have BK397 := n1_; have HB := n2_; clear n0_ n1_ n2_; (try clear hb); (try clear hb2); (try clear hk); (try clear hi)
            refine hK.out _ _ ⟨cz0 BK396.out, cz1 BK396.out, cz2 BK396.out, cz3 BK396.out, cz0 BK397.out, cz1 BK397.out, cz2 BK397.out, cz3 BK397.out, ((HB.out.cell (World.block_lt_of_cell? w _ hw398_0)).trans hw398_0), ((HB.out.cell (World.block_lt_of_cell? w _ hw398_1)).trans hw398_1), ((HB.out.cell (World.block_lt_of_cell? w _ hw398_2)).trans hw398_2), ((HB.out.cell (World.block_lt_of_cell? w _ hw398_3)).trans hw398_3), ((HB.out.cell (World.block_lt_of_cell? w _ hw399_0)).trans hw399_0), ((HB.out.cell (World.block_lt_of_cell? w _ hw399_1)).trans hw399_1), ((HB.out.cell (World.block_lt_of_cell? w _ hw399_2)).trans hw399_2), ((HB.out.cell (World.block_lt_of_cell? w _ hw399_3)).trans hw399_3)⟩ (fun hHeld => ?_)
            clear hK K
            refine norm_ (a' := ?_) ?_ ?_
            rotate_left
            ·show Act.put _ (some 54) _ = _
             exact pA
            refine pure_ (i := 11) (N := some 55) (v := ?_) (a' := ?_) (bm 12 4095) rfl rfl (any_of HT_.out (by kernel_rfl)) (fun _ _ _ h => h) (Or.inl ⟨by kernel_rfl, ?_⟩) ?_ ?_
            rotate_left
            ·intro w'
             go_simp
             with_reducible rfl
            rotate_left
            ·exact pA
            refine done_ (done_of HT_.out (by kernel_rfl)) ?_
            try go_wp2
            go_roundg k1
            case measure => have := HK1.out; omega
            case rel => exact ⟨(wrap64 (x5_1 + 1)), (by first | rfl | (simp; done) | (simp [*]; done)), H', ⟨by have := HK1.out; omega⟩, ⟨by (with_reducible repeat (first | refine blk_drewN ?_ _ | refine blk_drew ?_ | refine blk_alloc ?_ _)); exact BK396.out⟩, ⟨by (with_reducible repeat (first | refine blk_drewN ?_ _ | refine blk_drew ?_ | refine blk_alloc ?_ _)); exact BK397.out⟩, ⟨pB⟩⟩
           ·replace c27 := Bool.eq_false_iff.mpr c27
            subst c27
            rw [if_neg (show ¬ (false = true) by decide)] at H
            obtain rfl := Option.some.inj H
            have hnb32 := NB396_397.out
            have hnc32 := NB397_396.out
            have q33 := cf4 BK396.out
            try go_wp2
            replace BK396 := am (blk_drew BK396.out)
            replace BK397 := am (blk_drew BK397.out)
            replace HB := am (below_drew1 HB.out)
            have p398 : 0 ≤ (x5_1 : Int) := pD
            have q398 : x5_1 < (l0_3.length : Int) := pD
            obtain ⟨ad398, A398_3, c398_3, e398, hx398_0, hx398_1, hx398_2, hx398_3, hl398_3, hi398_3⟩ := at_T26 HR0_3.out x5_1 p398 q398
            have hw398_3 := hx398_3
            have hw398_2 := hx398_2
            have hw398_1 := hx398_1
            have hw398_0 := hx398_0
            cases e398
            replace hx398_0 := (HB.out.cell (World.block_lt_of_cell? w _ hx398_0)).trans hx398_0
            replace hx398_1 := (HB.out.cell (World.block_lt_of_cell? w _ hx398_1)).trans hx398_1
            replace hx398_2 := (HB.out.cell (World.block_lt_of_cell? w _ hx398_2)).trans hx398_2
            replace hx398_3 := (HB.out.cell (World.block_lt_of_cell? w _ hx398_3)).trans hx398_3
            have HR398_3 := am hi398_3
            have HC398_3 := am hl398_3
            clear hi398_3 hl398_3
            replace p398 := eq_true p398
            replace q398 := eq_true q398
            have p399 : 0 ≤ (x5_1 : Int) := pD
            have q399 : x5_1 < (l1_3.length : Int) := pD
            obtain ⟨ad399, A399_3, c399_3, e399, hx399_0, hx399_1, hx399_2, hx399_3, hl399_3, hi399_3⟩ := at_T26 HR1_3.out x5_1 p399 q399
            have hw399_3 := hx399_3
            have hw399_2 := hx399_2
            have hw399_1 := hx399_1
            have hw399_0 := hx399_0
            cases e399
            replace hx399_0 := (HB.out.cell (World.block_lt_of_cell? w _ hx399_0)).trans hx399_0
            replace hx399_1 := (HB.out.cell (World.block_lt_of_cell? w _ hx399_1)).trans hx399_1
            replace hx399_2 := (HB.out.cell (World.block_lt_of_cell? w _ hx399_2)).trans hx399_2
            replace hx399_3 := (HB.out.cell (World.block_lt_of_cell? w _ hx399_3)).trans hx399_3
            have HR399_3 := am hi399_3
            have HC399_3 := am hl399_3
            clear hi399_3 hl399_3
            replace p399 := eq_true p399
            replace q399 := eq_true q399
            refine start_ (n := 12) (S := fun w' => w'.cell? ⟨gb396, 0, none⟩ = some (.int .i64 a0_0) ∧ w'.cell? ⟨gb396, 1, none⟩ = some (.int .u64 a0_1) ∧ w'.cell? ⟨gb396, 2, none⟩ = some (.string a0_2) ∧ w'.cell? ⟨gb396, 3, none⟩ = some (.slice (some ad398) l0_3.length c0_3) ∧ w'.cell? ⟨gb397, 0, none⟩ = some (.int .i64 a1_0) ∧ w'.cell? ⟨gb397, 1, none⟩ = some (.int .u64 a1_1) ∧ w'.cell? ⟨gb397, 2, none⟩ = some (.string a1_2) ∧ w'.cell? ⟨gb397, 3, none⟩ = some (.slice (some ad399) l1_3.length c1_3) ∧ w'.cell? (ad398.add ((x5_1).toNat * 4)) = some (.int .i64 ((rd_T26 l0_3 x5_1).f0)) ∧ w'.cell? ⟨(ad398.add ((x5_1).toNat * 4)).block, (ad398.add ((x5_1).toNat * 4)).off + 1, none⟩ = some (.int .u64 ((rd_T26 l0_3 x5_1).f1)) ∧ w'.cell? ⟨(ad398.add ((x5_1).toNat * 4)).block, (ad398.add ((x5_1).toNat * 4)).off + 2, none⟩ = some (.string ((rd_T26 l0_3 x5_1).f2)) ∧ w'.cell? ⟨(ad398.add ((x5_1).toNat * 4)).block, (ad398.add ((x5_1).toNat * 4)).off + 3, none⟩ = some (.slice A398_3 ((rd_T26 l0_3 x5_1).f3).length c398_3) ∧ w'.cell? (ad399.add ((x5_1).toNat * 4)) = some (.int .i64 ((rd_T26 l1_3 x5_1).f0)) ∧ w'.cell? ⟨(ad399.add ((x5_1).toNat * 4)).block, (ad399.add ((x5_1).toNat * 4)).off + 1, none⟩ = some (.int .u64 ((rd_T26 l1_3 x5_1).f1)) ∧ w'.cell? ⟨(ad399.add ((x5_1).toNat * 4)).block, (ad399.add ((x5_1).toNat * 4)).off + 2, none⟩ = some (.string ((rd_T26 l1_3 x5_1).f2)) ∧ w'.cell? ⟨(ad399.add ((x5_1).toNat * 4)).block, (ad399.add ((x5_1).toNat * 4)).off + 3, none⟩ = some (.slice A399_3 ((rd_T26 l1_3 x5_1).f3).length c399_3)) (ds := []) (bm 12 0) (by kernel_rfl) rfl rfl ⟨cz0 BK396.out, cz1 BK396.out, cz2 BK396.out, cz3 BK396.out, cz0 BK397.out, cz1 BK397.out, cz2 BK397.out, cz3 BK397.out, ((HB.out.cell (World.block_lt_of_cell? w _ hw398_0)).trans hw398_0), ((HB.out.cell (World.block_lt_of_cell? w _ hw398_1)).trans hw398_1), ((HB.out.cell (World.block_lt_of_cell? w _ hw398_2)).trans hw398_2), ((HB.out.cell (World.block_lt_of_cell? w _ hw398_3)).trans hw398_3), ((HB.out.cell (World.block_lt_of_cell? w _ hw399_0)).trans hw399_0), ((HB.out.cell (World.block_lt_of_cell? w _ hw399_1)).trans hw399_1), ((HB.out.cell (World.block_lt_of_cell? w _ hw399_2)).trans hw399_2), ((HB.out.cell (World.block_lt_of_cell? w _ hw399_3)).trans hw399_3)⟩ (fun hHeld => ?_); refine with_tabW minstrelref07_Same.tab13 minstrelref07_Same.bits13 (fun HT_ HW_ => ?_)
            generalize wr.drew = w34 at BK396 BK397 HB HR398_3 HR399_3 hx398_0 hx398_1 hx398_2 hx398_3 hx399_0 hx399_1 hx399_2 hx399_3 hHeld ⊢
            refine pure_ (i := 0) (N := some 44) (v := ?_) (a' := ?_) (bm 12 1) rfl rfl (any_of HT_.out (by kernel_rfl)) (fun _ _ _ h => h) (Or.inl ⟨by kernel_rfl, ?_⟩) ?_ ?_
            rotate_left
            ·intro w'
             go_simp
             with_reducible rfl
            rotate_left
            ·exact pA
            refine pure_ (i := 2) (N := some 46) (v := ?_) (a' := ?_) (bm 12 5) rfl rfl (any_of HT_.out (by kernel_rfl)) (fun _ _ _ h => h) (Or.inl ⟨by kernel_rfl, ?_⟩) ?_ ?_
            rotate_left
            ·intro w'
             go_simp
             with_reducible rfl
            rotate_left
            ·exact pA
            refine pure_ (i := 5) (N := some 49) (v := ?_) (a' := ?_) (bm 12 37) rfl rfl (any_of HT_.out (by kernel_rfl)) (fun _ _ _ h => h) (Or.inl ⟨by kernel_rfl, ?_⟩) ?_ ?_
            rotate_left
            ·intro w'
             go_simp
             with_reducible rfl
            rotate_left
            ·exact pA
            refine pure_ (i := 7) (N := some 51) (v := ?_) (a' := ?_) (bm 12 165) rfl rfl (any_of HT_.out (by kernel_rfl)) (fun _ _ _ h => h) (Or.inl ⟨by kernel_rfl, ?_⟩) ?_ ?_
            rotate_left
            ·intro w'
             go_simp
             with_reducible rfl
            rotate_left
            ·exact pA
            refine take_ (i := 1) (N := some 45) (v := ?_) (a' := ?_) (bm 12 167) rfl rfl (take_ofW HT_.out HW_.out (by kernel_rfl)) (fun _ _ _ h => h) (Or.inl ⟨by kernel_rfl, ?_⟩) hHeld ?_ ?_
            rotate_left
            ·rintro w' ⟨s0, s1, s2, s3, s4, s5, s6, s7, s8, s9, s10, s11, s12, s13, s14, s15⟩
             go_simp
             with_reducible rfl
            rotate_left
            ·exact pA
            refine pure_ (i := 3) (N := some 47) (v := ?_) (a' := ?_) (bm 12 175) rfl rfl (any_of HT_.out (by kernel_rfl)) (fun _ _ _ h => h) (Or.inl ⟨by kernel_rfl, ?_⟩) ?_ ?_
            rotate_left
            ·intro w'
             go_simp
             with_reducible rfl
            rotate_left
            ·exact pA
            refine take_ (i := 4) (N := some 48) (v := ?_) (a' := ?_) (bm 12 191) rfl rfl (take_ofW HT_.out HW_.out (by kernel_rfl)) (fun _ _ _ h => h) (Or.inl ⟨by kernel_rfl, ?_⟩) hHeld ?_ ?_
            rotate_left
            ·rintro w' ⟨s0, s1, s2, s3, s4, s5, s6, s7, s8, s9, s10, s11, s12, s13, s14, s15⟩
             go_simp
             with_reducible rfl
            rotate_left
            ·exact pA
            refine take_ (i := 6) (N := some 50) (v := ?_) (a' := ?_) (bm 12 255) rfl rfl (take_ofW HT_.out HW_.out (by kernel_rfl)) (fun _ _ _ h => h) (Or.inl ⟨by kernel_rfl, ?_⟩) hHeld ?_ ?_
            rotate_left
            ·rintro w' ⟨s0, s1, s2, s3, s4, s5, s6, s7, s8, s9, s10, s11, s12, s13, s14, s15⟩
             go_simp
             with_reducible rfl
            rotate_left
            ·exact pA
            refine pure_ (i := 8) (N := some 52) (v := ?_) (a' := ?_) (bm 12 511) rfl rfl (any_of HT_.out (by kernel_rfl)) (fun _ _ _ h => h) (Or.inl ⟨by kernel_rfl, ?_⟩) ?_ ?_
            rotate_left
            ·intro w'
             go_simp
             with_reducible rfl
            rotate_left
            ·exact pA
            refine take_ (i := 9) (N := some 53) (v := ?_) (a' := ?_) (bm 12 1023) rfl rfl (take_ofW HT_.out HW_.out (by kernel_rfl)) (fun _ _ _ h => h) (Or.inl ⟨by kernel_rfl, ?_⟩) hHeld ?_ ?_
            rotate_left
            ·rintro w' ⟨s0, s1, s2, s3, s4, s5, s6, s7, s8, s9, s10, s11, s12, s13, s14, s15⟩
             go_simp
             with_reducible rfl
            rotate_left
            ·exact pA
            refine one_ (i := 10) (N := some 54) (bm 12 2047) rfl rfl (one_of HT_.out (by kernel_rfl)) (by decide) (fun K hK => ?_)
            refine goes_ Tryd.func19 (by kernel_rfl) rfl #[.agg #[.int .i64 ((rd_T26 l0_3 x5_1).f0), .int .u64 ((rd_T26 l0_3 x5_1).f1), .string ((rd_T26 l0_3 x5_1).f2), .slice A398_3 ((rd_T26 l0_3 x5_1).f3).length c398_3], .agg #[.int .i64 ((rd_T26 l1_3 x5_1).f0), .int .u64 ((rd_T26 l1_3 x5_1).f1), .string ((rd_T26 l1_3 x5_1).f2), .slice A399_3 ((rd_T26 l1_3 x5_1).f3).length c399_3]] (by rfl) rfl rfl pM ?_
            with_reducible refine (ih k1 (by have := HK1.out; omega) ((rd_T26 l0_3 x5_1).f0) ((rd_T26 l0_3 x5_1).f1) ((rd_T26 l0_3 x5_1).f2) _ _ ((rd_T26 l0_3 x5_1).f3) ((rd_T26 l1_3 x5_1).f0) ((rd_T26 l1_3 x5_1).f1) ((rd_T26 l1_3 x5_1).f2) _ _ ((rd_T26 l1_3 x5_1).f3) false _ ?side1 ?side2 ?side3 ?side4 A26.out).mono ?_
            (case side1 => exact pC (Kd.C_below HR398_3.out HB.out))
            (case side2 => exact HC398_3.out)
            (case side3 => exact pC (Kd.C_below HR399_3.out HB.out))
            (case side4 => exact HC399_3.out)
            rintro e w35 ⟨rfl, hb⟩
            refine ⟨_, rfl, ?_⟩
            have n0_ := am (pkb BK396.out hb)
            have n1_ := am (pkb BK397.out hb)
            have n2_ := am (below_step pB hb)
            clear BK396 BK397 HB; have BK396 := n0_; have BK397 := n1_; have HB := n2_; clear n0_ n1_ n2_; (try clear hb); (try clear hb2); (try clear hk); (try clear hi)
            refine hK.out _ _ ⟨cz0 BK396.out, cz1 BK396.out, cz2 BK396.out, cz3 BK396.out, cz0 BK397.out, cz1 BK397.out, cz2 BK397.out, cz3 BK397.out, ((HB.out.cell (World.block_lt_of_cell? w _ hw398_0)).trans hw398_0), ((HB.out.cell (World.block_lt_of_cell? w _ hw398_1)).trans hw398_1), ((HB.out.cell (World.block_lt_of_cell? w _ hw398_2)).trans hw398_2), ((HB.out.cell (World.block_lt_of_cell? w _ hw398_3)).trans hw398_3), ((HB.out.cell (World.block_lt_of_cell? w _ hw399_0)).trans hw399_0), ((HB.out.cell (World.block_lt_of_cell? w _ hw399_1)).trans hw399_1), ((HB.out.cell (World.block_lt_of_cell? w _ hw399_2)).trans hw399_2), ((HB.out.cell (World.block_lt_of_cell? w _ hw399_3)).trans hw399_3)⟩ (fun hHeld => ?_)
            clear hK K
            refine norm_ (a' := ?_) ?_ ?_
            rotate_left
            ·show Act.put _ (some 54) _ = _
             exact pA
            refine pure_ (i := 11) (N := some 55) (v := ?_) (a' := ?_) (bm 12 4095) rfl rfl (any_of HT_.out (by kernel_rfl)) (fun _ _ _ h => h) (Or.inl ⟨by kernel_rfl, ?_⟩) ?_ ?_
            rotate_left
            ·intro w'
             go_simp
             with_reducible rfl
            rotate_left
            ·exact pA
            refine done_ (done_of HT_.out (by kernel_rfl)) ?_
            try go_wp2
            go_ret
            exact ⟨pE, pB⟩
          ·rw [if_neg c25] at H
           exact absurd H (by simp)
         ·rw [if_neg c24] at H
          exact absurd H (by simp)
        ·rw [if_neg c23] at H
         have c23b0 : decide (x5_1 < (l0_3.length : Int)) = false := decide_eq_false c23
         clear c23
         obtain rfl := Option.some.inj H
         have hnb36 := NB396_397.out
         have hnc36 := NB397_396.out
         have q37 := cf4 BK396.out
         go_wp2
         go_ret
         exact ⟨pE, pB⟩
     ·rw [if_neg c17] at H
      have c17b0 : ((l0_3.length : Int) == (l1_3.length : Int)) = false := beq_eq_false_iff_ne.mpr c17
      have c17b1 : ((l0_3.length : Int) != (l1_3.length : Int)) = true := bne_iff_ne.mpr c17
      have c17b2 : (l0_3.length == l1_3.length) = false := by first | simpa using c17 | (simp at c17 ⊢; omega)
      obtain rfl := Option.some.inj H
      go_enter Tryd.func19, Tryd.ntmps19
      go_wp2_with (first | ((with_reducible refine gate_dst (N := 2) rfl ?_); refine box_event ?hg (N := 2) ?hd (cs := #[.int .i64 a0_0, .int .u64 a0_1, .string a0_2, .slice A0_3 l0_3.length c0_3]) (t := 26) ?hr ?_; (case hd => rfl); (case hg => rfl); (case hr => first | (go_simp; done) | (go_simp; rfl)); intro gb396 hg w38 hbox hb; have BK396 := am (hbox); have GW396 := am ((by rw [hg]; exact (below_size pB) : w.heap.size ≤ gb396)); have GE396 := am ((by rw [hg]; exact (below_size pB) : w.heap.size ≤ gb396)); replace HB := am (below_step pB hb); clear hb hbox hg) | ((with_reducible refine gate_dst (N := 3) rfl ?_); refine box_event ?hg (N := 3) ?hd (cs := #[.int .i64 a1_0, .int .u64 a1_1, .string a1_2, .slice A1_3 l1_3.length c1_3]) (t := 26) ?hr ?_; (case hd => rfl); (case hg => rfl); (case hr => first | (go_simp; done) | (go_simp; rfl)); intro gb397 hg w39 hbox hb; have BK397 := am (hbox); have GW397 := am ((by rw [hg]; exact (below_size pB) : w.heap.size ≤ gb397)); have GE397 := am ((by rw [hg]; exact (below_size pB) : w.heap.size ≤ gb397)); have NB396_397 := am ((by rw [hg]; exact Nat.ne_of_lt (pkl BK396.out) : gb396 ≠ gb397)); have NB397_396 := am ((by rw [hg]; exact Nat.ne_of_gt (pkl BK396.out) : gb397 ≠ gb396)); replace BK396 := am (pkb BK396.out hb); replace HB := am (below_step pB hb); clear hb hbox hg; have hnb40 := NB396_397.out; have hnc40 := NB397_396.out; have q41 := cf4 BK396.out; have q42 := cf4 BK397.out))
      go_ret
      exact ⟨pE, pB⟩
    ·rw [if_neg c16] at H
     have c16b0 : (a0_0 == 2) = false := beq_eq_false_iff_ne.mpr c16
     have c16b1 : (a0_0 != 2) = true := bne_iff_ne.mpr c16
     obtain rfl := Option.some.inj H
     go_enter Tryd.func19, Tryd.ntmps19
     go_wp2_with (first | ((with_reducible refine gate_dst (N := 2) rfl ?_); refine box_event ?hg (N := 2) ?hd (cs := #[.int .i64 a0_0, .int .u64 a0_1, .string a0_2, .slice A0_3 l0_3.length c0_3]) (t := 26) ?hr ?_; (case hd => rfl); (case hg => rfl); (case hr => first | (go_simp; done) | (go_simp; rfl)); intro gb396 hg w43 hbox hb; have BK396 := am (hbox); have GW396 := am ((by rw [hg]; exact (below_size pB) : w.heap.size ≤ gb396)); have GE396 := am ((by rw [hg]; exact (below_size pB) : w.heap.size ≤ gb396)); replace HB := am (below_step pB hb); clear hb hbox hg) | ((with_reducible refine gate_dst (N := 3) rfl ?_); refine box_event ?hg (N := 3) ?hd (cs := #[.int .i64 a1_0, .int .u64 a1_1, .string a1_2, .slice A1_3 l1_3.length c1_3]) (t := 26) ?hr ?_; (case hd => rfl); (case hg => rfl); (case hr => first | (go_simp; done) | (go_simp; rfl)); intro gb397 hg w44 hbox hb; have BK397 := am (hbox); have GW397 := am ((by rw [hg]; exact (below_size pB) : w.heap.size ≤ gb397)); have GE397 := am ((by rw [hg]; exact (below_size pB) : w.heap.size ≤ gb397)); have NB396_397 := am ((by rw [hg]; exact Nat.ne_of_lt (pkl BK396.out) : gb396 ≠ gb397)); have NB397_396 := am ((by rw [hg]; exact Nat.ne_of_gt (pkl BK396.out) : gb397 ≠ gb396)); replace BK396 := am (pkb BK396.out hb); replace HB := am (below_step pB hb); clear hb hbox hg; have hnb45 := NB396_397.out; have hnc45 := NB397_396.out; have q46 := cf4 BK396.out; have q47 := cf4 BK397.out))
     go_ret
     exact ⟨pE, pB⟩
 ·rw [if_neg c3] at H
  have c3b0 : (a0_0 == a1_0) = false := beq_eq_false_iff_ne.mpr c3
  have c3b1 : (a0_0 != a1_0) = true := bne_iff_ne.mpr c3
  obtain rfl := Option.some.inj H
  go_enter Tryd.func19, Tryd.ntmps19
  go_wp2_with (first | ((with_reducible refine gate_dst (N := 2) rfl ?_); refine box_event ?hg (N := 2) ?hd (cs := #[.int .i64 a0_0, .int .u64 a0_1, .string a0_2, .slice A0_3 l0_3.length c0_3]) (t := 26) ?hr ?_; (case hd => rfl); (case hg => rfl); (case hr => first | (go_simp; done) | (go_simp; rfl)); intro gb396 hg w48 hbox hb; have BK396 := am (hbox); have GW396 := am ((by rw [hg]; exact (below_size pB) : w.heap.size ≤ gb396)); have GE396 := am ((by rw [hg]; exact (below_size pB) : w.heap.size ≤ gb396)); replace HB := am (below_step pB hb); clear hb hbox hg) | ((with_reducible refine gate_dst (N := 3) rfl ?_); refine box_event ?hg (N := 3) ?hd (cs := #[.int .i64 a1_0, .int .u64 a1_1, .string a1_2, .slice A1_3 l1_3.length c1_3]) (t := 26) ?hr ?_; (case hd => rfl); (case hg => rfl); (case hr => first | (go_simp; done) | (go_simp; rfl)); intro gb397 hg w49 hbox hb; have BK397 := am (hbox); have GW397 := am ((by rw [hg]; exact (below_size pB) : w.heap.size ≤ gb397)); have GE397 := am ((by rw [hg]; exact (below_size pB) : w.heap.size ≤ gb397)); have NB396_397 := am ((by rw [hg]; exact Nat.ne_of_lt (pkl BK396.out) : gb396 ≠ gb397)); have NB397_396 := am ((by rw [hg]; exact Nat.ne_of_gt (pkl BK396.out) : gb397 ≠ gb396)); replace BK396 := am (pkb BK396.out hb); replace HB := am (below_step pB hb); clear hb hbox hg; have hnb50 := NB396_397.out; have hnc50 := NB397_396.out; have q51 := cf4 BK396.out; have q52 := cf4 BK397.out))
  go_ret
  exact ⟨pE, pB⟩
end Go.Proofs.YtlkaffbgekbcfaaDoor.Pr
end
section
namespace Go.Proofs.YtlkaffbgekbcfaaDoor.Pr
open Go.RowKit Go.Proofs.YtlkaffbgekbcfaaDoorW.PrintWords Go.Proofs.YtlkaffbgekbcfaaDoorW.PrintLast Go.Proofs.YtlkaffbgekbcfaaDoorW.PrintMore
attribute [local go_sem] max2_int min2_int max_two min_two max_three min_three max_four min_four
mutual
def minstrelref19_Same.j0 : Nat → Bool → Int → Int → ByteArray → List Int → Int → Int → ByteArray → List Int → Option (Bool)
 | 0, _, _, _, _, _, _, _, _, _ => none
 | k + 1, x33, x402000, x402001, x402002, x402003, x403000, x403001, x403002, x403003 => if x33 = true then (some false) else (minstrelref19_Same.l0 k 0 x402000 x402001 x402002 x402003 x403000 x403001 x403002 x403003)
def minstrelref19_Same.l0 : Nat → Int → Int → Int → ByteArray → List Int → Int → Int → ByteArray → List Int → Option (Bool)
 | 0, _, _, _, _, _, _, _, _, _ => none
 | k + 1, x5, x402000, x402001, x402002, x402003, x403000, x403001, x403002, x403003 => if x5 < (x402003.length : Int) then (if 0 ≤ x5 then (if x5 < (x403003.length : Int) then (if (rd x402003 x5) = (rd x403003 x5) then (minstrelref19_Same.l0 k (wrap64 (x5 + 1)) x402000 x402001 x402002 x402003 x403000 x403001 x403002 x403003) else (some false)) else (none)) else (none)) else (some true)
end
def minstrelref19_Same.f (k : Nat) (a0_0 : Int) (a0_1 : Int) (a0_2 : ByteArray) (l0_3 : List Int) (a1_0 : Int) (a1_1 : Int) (a1_2 : ByteArray) (l1_3 : List Int) : Option (Bool) := if a0_0 = a1_0 then (if a0_1 = a1_1 then (if a0_2.toList = a1_2.toList then (minstrelref19_Same.j0 k ((l0_3.length : Int) != (l1_3.length : Int)) a0_0 a0_1 a0_2 l0_3 a1_0 a1_1 a1_2 l1_3) else (minstrelref19_Same.j0 k true a0_0 a0_1 a0_2 l0_3 a1_0 a1_1 a1_2 l1_3)) else (minstrelref19_Same.j0 k true a0_0 a0_1 a0_2 l0_3 a1_0 a1_1 a1_2 l1_3)) else (minstrelref19_Same.j0 k true a0_0 a0_1 a0_2 l0_3 a1_0 a1_1 a1_2 l1_3)
theorem minstrelref19_Same.mono_l : ∀ k, (∀ y0 y1 y2 y3 y4 y5 y6 y7 y8, LeO (minstrelref19_Same.j0 k y0 y1 y2 y3 y4 y5 y6 y7 y8) (minstrelref19_Same.j0 (k + 1) y0 y1 y2 y3 y4 y5 y6 y7 y8)) ∧ (∀ y0 y1 y2 y3 y4 y5 y6 y7 y8, LeO (minstrelref19_Same.l0 k y0 y1 y2 y3 y4 y5 y6 y7 y8) (minstrelref19_Same.l0 (k + 1) y0 y1 y2 y3 y4 y5 y6 y7 y8))
 | 0 => ⟨fun _ _ _ _ _ _ _ _ _ r h => by simp [minstrelref19_Same.j0] at h, fun _ _ _ _ _ _ _ _ _ r h => by simp [minstrelref19_Same.l0] at h⟩
 | k + 1 => by
  obtain ⟨ih0, ih1⟩ := minstrelref19_Same.mono_l k
  refine ⟨?_, ?_⟩
  ·intro y0 y1 y2 y3 y4 y5 y6 y7 y8
   unfold minstrelref19_Same.j0
   repeat' first
   | (with_reducible exact ih0 _ _ _ _ _ _ _ _ _)
   | (with_reducible exact ih1 _ _ _ _ _ _ _ _ _)
   | (with_reducible exact LeO.refl _)
   | (with_reducible exact LeO.none _)
   | (with_reducible refine LeO.ite ?_ ?_)
   | (with_reducible refine LeO.bind ?_ (fun _ => ?_))
   | exact ih0 _ _ _ _ _ _ _ _ _
   | exact ih1 _ _ _ _ _ _ _ _ _
   | exact LeO.none _
   | refine LeO.ite ?_ ?_
   | refine LeO.bind ?_ (fun _ => ?_)
  ·intro y0 y1 y2 y3 y4 y5 y6 y7 y8
   unfold minstrelref19_Same.l0
   repeat' first
   | (with_reducible exact ih0 _ _ _ _ _ _ _ _ _)
   | (with_reducible exact ih1 _ _ _ _ _ _ _ _ _)
   | (with_reducible exact LeO.refl _)
   | (with_reducible exact LeO.none _)
   | (with_reducible refine LeO.ite ?_ ?_)
   | (with_reducible refine LeO.bind ?_ (fun _ => ?_))
   | exact ih0 _ _ _ _ _ _ _ _ _
   | exact ih1 _ _ _ _ _ _ _ _ _
   | exact LeO.none _
   | refine LeO.ite ?_ ?_
   | refine LeO.bind ?_ (fun _ => ?_)
theorem minstrelref19_Same.mono : ∀ a0 a1 a2 a3 a4 a5 a6 a7 k, LeO (minstrelref19_Same.f k a0 a1 a2 a3 a4 a5 a6 a7) (minstrelref19_Same.f (k + 1) a0 a1 a2 a3 a4 a5 a6 a7) := by
 intro a0 a1 a2 a3 a4 a5 a6 a7 k
 obtain ⟨ih0, ih1⟩ := minstrelref19_Same.mono_l k
 unfold minstrelref19_Same.f
 repeat' first
   | (with_reducible exact ih0 _ _ _ _ _ _ _ _ _)
   | (with_reducible exact ih1 _ _ _ _ _ _ _ _ _)
   | (with_reducible exact LeO.refl _)
   | (with_reducible exact LeO.none _)
   | (with_reducible refine LeO.ite ?_ ?_)
   | (with_reducible refine LeO.bind ?_ (fun _ => ?_))
   | exact ih0 _ _ _ _ _ _ _ _ _
   | exact ih1 _ _ _ _ _ _ _ _ _
   | exact LeO.none _
   | refine LeO.ite ?_ ?_
   | refine LeO.bind ?_ (fun _ => ?_)
set_option maxHeartbeats 8000000 in
set_option maxRecDepth 100000 in
theorem minstrelref19_Same.calls (k : Nat) (a0_0 : Int) (a0_1 : Int) (a0_2 : ByteArray) (A0_3 : Option Addr) (c0_3 : Nat) (l0_3 : List Int) (a1_0 : Int) (a1_1 : Int) (a1_2 : ByteArray) (A1_3 : Option Addr) (c1_3 : Nat) (l1_3 : List Int) (r : Bool) (w : World) (hr0_3 : Kd.C (Kd.int .i64) w A0_3 l0_3.length l0_3) (hc0_3 : l0_3.length ≤ c0_3) (hr1_3 : Kd.C (Kd.int .i64) w A1_3 l1_3.length l1_3) (hc1_3 : l1_3.length ≤ c1_3) (h : minstrelref19_Same.f k a0_0 a0_1 a0_2 l0_3 a1_0 a1_1 a1_2 l1_3 = some r) :
  Calls Tryd.prog 23 #[.agg #[.int .u64 a0_0, .int .i64 a0_1, .string a0_2, .slice A0_3 l0_3.length c0_3], .agg #[.int .u64 a1_0, .int .i64 a1_1, .string a1_2, .slice A1_3 l1_3.length c1_3]] w fun e w' => e = .returned (.bool r) ∧ Below w.heap.size w w' := by
 have hu46 := Tryd.underlying46
 have HR0_3 := am hr0_3
 have HC0_3 := am hc0_3
 clear hr0_3 hc0_3
 have HR1_3 := am hr1_3
 have HC1_3 := am hc1_3
 clear hr1_3 hc1_3
 have HB := am (Below.refl w.heap.size w)
 have H : (if a0_0 = a1_0 then (if a0_1 = a1_1 then (if a0_2.toList = a1_2.toList then (minstrelref19_Same.j0 k ((l0_3.length : Int) != (l1_3.length : Int)) a0_0 a0_1 a0_2 l0_3 a1_0 a1_1 a1_2 l1_3) else (minstrelref19_Same.j0 k true a0_0 a0_1 a0_2 l0_3 a1_0 a1_1 a1_2 l1_3)) else (minstrelref19_Same.j0 k true a0_0 a0_1 a0_2 l0_3 a1_0 a1_1 a1_2 l1_3)) else (minstrelref19_Same.j0 k true a0_0 a0_1 a0_2 l0_3 a1_0 a1_1 a1_2 l1_3)) = some r := h
 clear h
 have HC3 := am H
 clear H
 go_enter Tryd.func23, Tryd.ntmps23
 go_upto_region 1 with (first | ((with_reducible refine gate_dst (N := 2) rfl ?_); (try (refine gate_guard (by rfl) ?_; dsimp only)); refine box_event ?hg (N := 2) ?hd (cs := #[.int .u64 a0_0, .int .i64 a0_1, .string a0_2, .slice A0_3 l0_3.length c0_3]) (t := 46) ?hr ?_; (case hd => rfl); (case hg => rfl); (case hr => first | (go_simp; done) | (go_simp; rfl)); intro gb401 hg w4 hbox hb; have BK401 := am (hbox); have GW401 := am ((by rw [hg]; exact (below_size pB) : w.heap.size ≤ gb401)); have GE401 := am ((by rw [hg]; exact (below_size pB) : w.heap.size ≤ gb401)); replace HB := am (below_step pB hb); clear hb hbox hg) | ((with_reducible refine gate_dst (N := 3) rfl ?_); (try (refine gate_guard (by rfl) ?_; dsimp only)); refine box_event ?hg (N := 3) ?hd (cs := #[.int .u64 a1_0, .int .i64 a1_1, .string a1_2, .slice A1_3 l1_3.length c1_3]) (t := 46) ?hr ?_; (case hd => rfl); (case hg => rfl); (case hr => first | (go_simp; done) | (go_simp; rfl)); intro gb402 hg w5 hbox hb; have BK402 := am (hbox); have GW402 := am ((by rw [hg]; exact (below_size pB) : w.heap.size ≤ gb402)); have GE402 := am ((by rw [hg]; exact (below_size pB) : w.heap.size ≤ gb402)); have NB401_402 := am ((by rw [hg]; exact Nat.ne_of_lt (pkl BK401.out) : gb401 ≠ gb402)); have NB402_401 := am ((by rw [hg]; exact Nat.ne_of_gt (pkl BK401.out) : gb402 ≠ gb401)); replace BK401 := am (pkb BK401.out hb); replace HB := am (below_step pB hb); clear hb hbox hg))
 repeat (go_quiet (first | ((with_reducible refine gate_dst (N := 2) rfl ?_); (try (refine gate_guard (by rfl) ?_; dsimp only)); refine box_event ?hg (N := 2) ?hd (cs := #[.int .u64 a0_0, .int .i64 a0_1, .string a0_2, .slice A0_3 l0_3.length c0_3]) (t := 46) ?hr ?_; (case hd => rfl); (case hg => rfl); (case hr => first | (go_simp; done) | (go_simp; rfl)); intro gb401 hg w4 hbox hb; have BK401 := am (hbox); have GW401 := am ((by rw [hg]; exact (below_size pB) : w.heap.size ≤ gb401)); have GE401 := am ((by rw [hg]; exact (below_size pB) : w.heap.size ≤ gb401)); replace HB := am (below_step pB hb); clear hb hbox hg) | ((with_reducible refine gate_dst (N := 3) rfl ?_); (try (refine gate_guard (by rfl) ?_; dsimp only)); refine box_event ?hg (N := 3) ?hd (cs := #[.int .u64 a1_0, .int .i64 a1_1, .string a1_2, .slice A1_3 l1_3.length c1_3]) (t := 46) ?hr ?_; (case hd => rfl); (case hg => rfl); (case hr => first | (go_simp; done) | (go_simp; rfl)); intro gb402 hg w5 hbox hb; have BK402 := am (hbox); have GW402 := am ((by rw [hg]; exact (below_size pB) : w.heap.size ≤ gb402)); have GE402 := am ((by rw [hg]; exact (below_size pB) : w.heap.size ≤ gb402)); have NB401_402 := am ((by rw [hg]; exact Nat.ne_of_lt (pkl BK401.out) : gb401 ≠ gb402)); have NB402_401 := am ((by rw [hg]; exact Nat.ne_of_gt (pkl BK401.out) : gb402 ≠ gb401)); replace BK401 := am (pkb BK401.out hb); replace HB := am (below_step pB hb); clear hb hbox hg)); go_upto_region 1 with (first | ((with_reducible refine gate_dst (N := 2) rfl ?_); (try (refine gate_guard (by rfl) ?_; dsimp only)); refine box_event ?hg (N := 2) ?hd (cs := #[.int .u64 a0_0, .int .i64 a0_1, .string a0_2, .slice A0_3 l0_3.length c0_3]) (t := 46) ?hr ?_; (case hd => rfl); (case hg => rfl); (case hr => first | (go_simp; done) | (go_simp; rfl)); intro gb401 hg w4 hbox hb; have BK401 := am (hbox); have GW401 := am ((by rw [hg]; exact (below_size pB) : w.heap.size ≤ gb401)); have GE401 := am ((by rw [hg]; exact (below_size pB) : w.heap.size ≤ gb401)); replace HB := am (below_step pB hb); clear hb hbox hg) | ((with_reducible refine gate_dst (N := 3) rfl ?_); (try (refine gate_guard (by rfl) ?_; dsimp only)); refine box_event ?hg (N := 3) ?hd (cs := #[.int .u64 a1_0, .int .i64 a1_1, .string a1_2, .slice A1_3 l1_3.length c1_3]) (t := 46) ?hr ?_; (case hd => rfl); (case hg => rfl); (case hr => first | (go_simp; done) | (go_simp; rfl)); intro gb402 hg w5 hbox hb; have BK402 := am (hbox); have GW402 := am ((by rw [hg]; exact (below_size pB) : w.heap.size ≤ gb402)); have GE402 := am ((by rw [hg]; exact (below_size pB) : w.heap.size ≤ gb402)); have NB401_402 := am ((by rw [hg]; exact Nat.ne_of_lt (pkl BK401.out) : gb401 ≠ gb402)); have NB402_401 := am ((by rw [hg]; exact Nat.ne_of_gt (pkl BK401.out) : gb402 ≠ gb401)); replace BK401 := am (pkb BK401.out hb); replace HB := am (below_step pB hb); clear hb hbox hg)))
 (try simp only [Act.put, List.setIfInBounds_toArray, List.set_cons_zero, List.set_cons_succ])
 go_cut [33] (fun v33 wc => ∃ (kq : Nat) (x33_2 : Bool), v33 = .bool x33_2 ∧ Aside0 (minstrelref19_Same.j0 kq x33_2 a0_0 a0_1 a0_2 l0_3 a1_0 a1_1 a1_2 l1_3 = some r) ∧ Aside0 (kq ≤ k) ∧ Aside0 (wc.heap[gb401]? = some (.cells #[.int .u64 a0_0, .int .i64 a0_1, .string a0_2, (.slice A0_3 l0_3.length c0_3)] 46 (0, 0))) ∧ Aside0 (wc.heap[gb402]? = some (.cells #[.int .u64 a1_0, .int .i64 a1_1, .string a1_2, (.slice A1_3 l1_3.length c1_3)] 46 (0, 0))) ∧ Aside0 (Below w.heap.size w wc))
 case first =>
  have H := HC3.out
  clear HC3
  by_cases c6 : a0_0 = a1_0
  ·rw [if_pos c6] at H
   have c6b0 : (a0_0 == a1_0) = true := beq_iff_eq.mpr c6
   have c6b1 : (a0_0 != a1_0) = false := bne_eq_false_iff_eq.mpr c6
   clear c6
   (first | rw [c6b0] | (simp only [i64_w, i32_w]; rw [c6b0]) | rw [c6b1] | (simp only [i64_w, i32_w]; rw [c6b1]) | skip)
   by_cases c7 : a0_1 = a1_1
   ·rw [if_pos c7] at H
    have c7b0 : (a0_1 == a1_1) = true := beq_iff_eq.mpr c7
    have c7b1 : (a0_1 != a1_1) = false := bne_eq_false_iff_eq.mpr c7
    clear c7
    by_cases c8 : a0_2.toList = a1_2.toList
    ·rw [if_pos c8] at H
     have c8b0 : (a0_2.toList == a1_2.toList) = true := beq_iff_eq.mpr c8
     have c8b1 : (a0_2.toList != a1_2.toList) = false := bne_eq_false_iff_eq.mpr c8
     clear c8
     have H' := am H
     clear H
     have hnb9 := NB401_402.out
     have hnc9 := NB402_401.out
     have q10 := cf4 BK401.out
     have q11 := cf4 BK402.out
     go_wp2
     repeat (go_quiet (fail); try go_wp2)
     go_meet
     case rel => exact ⟨_, (((l0_3.length : Int) != (l1_3.length : Int))), (by first | rfl | (simp; done) | (simp [*]; done)), H', ⟨by first | omega | exact Nat.le_refl _⟩, ⟨by (with_reducible repeat (first | refine blk_drewN ?_ _ | refine blk_drew ?_ | refine blk_alloc ?_ _)); exact BK401.out⟩, ⟨by (with_reducible repeat (first | refine blk_drewN ?_ _ | refine blk_drew ?_ | refine blk_alloc ?_ _)); exact BK402.out⟩, ⟨pB⟩⟩
    ·rw [if_neg c8] at H
     have c8b0 : (a0_2.toList == a1_2.toList) = false := beq_eq_false_iff_ne.mpr c8
     have c8b1 : (a0_2.toList != a1_2.toList) = true := bne_iff_ne.mpr c8
     have H' := am H
     clear H
     have hnb12 := NB401_402.out
     have hnc12 := NB402_401.out
     obtain ⟨hcz13_0, hcz13_1, hcz13_2, hcz13_3, hfz13_0, hfz13_1, hfz13_2, hfz13_3⟩ := cf4 BK401.out
     obtain ⟨hcz14_0, hcz14_1, hcz14_2, hcz14_3, hfz14_0, hfz14_1, hfz14_2, hfz14_3⟩ := cf4 BK402.out
     go_wp2
     repeat (go_quiet (fail); try go_wp2)
     go_meet
     case rel => exact ⟨_, (true), (by first | rfl | (simp; done) | (simp [*]; done)), H', ⟨by first | omega | exact Nat.le_refl _⟩, ⟨by (with_reducible repeat (first | refine blk_drewN ?_ _ | refine blk_drew ?_ | refine blk_alloc ?_ _)); exact BK401.out⟩, ⟨by (with_reducible repeat (first | refine blk_drewN ?_ _ | refine blk_drew ?_ | refine blk_alloc ?_ _)); exact BK402.out⟩, ⟨pB⟩⟩
   ·rw [if_neg c7] at H
    have c7b0 : (a0_1 == a1_1) = false := beq_eq_false_iff_ne.mpr c7
    have c7b1 : (a0_1 != a1_1) = true := bne_iff_ne.mpr c7
    have H' := am H
    clear H
    have hnb15 := NB401_402.out
    have hnc15 := NB402_401.out
    obtain ⟨hcz16_0, hcz16_1, hcz16_2, hcz16_3, hfz16_0, hfz16_1, hfz16_2, hfz16_3⟩ := cf4 BK401.out
    obtain ⟨hcz17_0, hcz17_1, hcz17_2, hcz17_3, hfz17_0, hfz17_1, hfz17_2, hfz17_3⟩ := cf4 BK402.out
    go_wp2
    repeat (go_quiet (fail); try go_wp2)
    go_meet
    case rel => exact ⟨_, (true), (by first | rfl | (simp; done) | (simp [*]; done)), H', ⟨by first | omega | exact Nat.le_refl _⟩, ⟨by (with_reducible repeat (first | refine blk_drewN ?_ _ | refine blk_drew ?_ | refine blk_alloc ?_ _)); exact BK401.out⟩, ⟨by (with_reducible repeat (first | refine blk_drewN ?_ _ | refine blk_drew ?_ | refine blk_alloc ?_ _)); exact BK402.out⟩, ⟨pB⟩⟩
  ·rw [if_neg c6] at H
   have c6b0 : (a0_0 == a1_0) = false := beq_eq_false_iff_ne.mpr c6
   have c6b1 : (a0_0 != a1_0) = true := bne_iff_ne.mpr c6
   (first | rw [c6b0] | (simp only [i64_w, i32_w]; rw [c6b0]) | rw [c6b1] | (simp only [i64_w, i32_w]; rw [c6b1]) | skip)
   have H' := am H
   clear H
   have hnb18 := NB401_402.out
   have hnc18 := NB402_401.out
   obtain ⟨hcz19_0, hcz19_1, hcz19_2, hcz19_3, hfz19_0, hfz19_1, hfz19_2, hfz19_3⟩ := cf4 BK401.out
   obtain ⟨hcz20_0, hcz20_1, hcz20_2, hcz20_3, hfz20_0, hfz20_1, hfz20_2, hfz20_3⟩ := cf4 BK402.out
   go_wp2
   repeat (go_quiet (fail); try go_wp2)
   go_meet
   case rel => exact ⟨_, (true), (by first | rfl | (simp; done) | (simp [*]; done)), H', ⟨by first | omega | exact Nat.le_refl _⟩, ⟨by (with_reducible repeat (first | refine blk_drewN ?_ _ | refine blk_drew ?_ | refine blk_alloc ?_ _)); exact BK401.out⟩, ⟨by (with_reducible repeat (first | refine blk_drewN ?_ _ | refine blk_drew ?_ | refine blk_alloc ?_ _)); exact BK402.out⟩, ⟨pB⟩⟩
 case rest =>
  clear HC3
  try clear c1
  try clear c2
  try clear p2
  try clear c6
  try clear c6b0
  try clear c6b1
  try clear c7
  try clear c7b0
  try clear c7b1
  try clear c8
  try clear c8b0
  try clear c8b1
  try clear c9
  try clear c12
  try clear c15
  try clear c18
  try clear q10 q11 hcz13_0 hcz13_1 hcz13_2 hcz13_3 hcz14_0 hcz14_1 hcz14_2 hcz14_3 hcz16_0 hcz16_1 hcz16_2 hcz16_3 hcz17_0 hcz17_1 hcz17_2 hcz17_3 hcz19_0 hcz19_1 hcz19_2 hcz19_3 hcz20_0 hcz20_1 hcz20_2 hcz20_3 hfz13_0 hfz13_1 hfz13_2 hfz13_3 hfz14_0 hfz14_1 hfz14_2 hfz14_3 hfz16_0 hfz16_1 hfz16_2 hfz16_3 hfz17_0 hfz17_1 hfz17_2 hfz17_3 hfz19_0 hfz19_1 hfz19_2 hfz19_3 hfz20_0 hfz20_1 hfz20_2 hfz20_3
  obtain ⟨kq, x33_2, rfl, HA, HJ2, BK401, BK402, HB⟩ := hcut
  cases kq with
  | zero => exact absurd HA.out (by simp [minstrelref19_Same.j0])
  | succ kj2 =>
   have H := HA.out
   clear HA
   simp only [minstrelref19_Same.j0] at H
   by_cases c21 : x33_2 = true
   ·subst c21
    rw [if_pos rfl] at H
    obtain rfl := Option.some.inj H
    go_wp2
    repeat (go_quiet (fail); try go_wp2)
    go_ret
    exact ⟨pE, pB⟩
   ·replace c21 := Bool.eq_false_iff.mpr c21
    subst c21
    rw [if_neg (show ¬ (false = true) by decide)] at H
    have H' := am H
    clear H
    go_wp2
    repeat (go_quiet (fail); try go_wp2)
    go_loopg [5] kj2 (fun kq v5 w' => ∃ (x5_2 : Int), v5 = .int .i64 x5_2 ∧ Aside0 (minstrelref19_Same.l0 kq x5_2 a0_0 a0_1 a0_2 l0_3 a1_0 a1_1 a1_2 l1_3 = some r) ∧ Aside0 (kq ≤ kj2) ∧ Aside0 (w'.heap[gb401]? = some (.cells #[.int .u64 a0_0, .int .i64 a0_1, .string a0_2, (.slice A0_3 l0_3.length c0_3)] 46 (0, 0))) ∧ Aside0 (w'.heap[gb402]? = some (.cells #[.int .u64 a1_0, .int .i64 a1_1, .string a1_2, (.slice A1_3 l1_3.length c1_3)] 46 (0, 0))) ∧ Aside0 (Below w.heap.size w w'))
    case atStart => exact ⟨(0), (by first | rfl | (simp; done) | (simp [*]; done)), H', ⟨Nat.le_refl _⟩, ⟨by (with_reducible repeat (first | refine blk_drewN ?_ _ | refine blk_drew ?_ | refine blk_alloc ?_ _)); exact BK401.out⟩, ⟨by (with_reducible repeat (first | refine blk_drewN ?_ _ | refine blk_drew ?_ | refine blk_alloc ?_ _)); exact BK402.out⟩, ⟨pB⟩⟩
    case round =>
     clear H'
     try clear c1
     try clear c2
     try clear p2
     try clear c6
     try clear c6b0
     try clear c6b1
     try clear c7
     try clear c7b0
     try clear c7b1
     try clear c8
     try clear c8b0
     try clear c8b1
     try clear c9
     try clear c12
     try clear c15
     try clear c18
     try clear c21
     try clear q10 q11 hcz13_0 hcz13_1 hcz13_2 hcz13_3 hcz14_0 hcz14_1 hcz14_2 hcz14_3 hcz16_0 hcz16_1 hcz16_2 hcz16_3 hcz17_0 hcz17_1 hcz17_2 hcz17_3 hcz19_0 hcz19_1 hcz19_2 hcz19_3 hcz20_0 hcz20_1 hcz20_2 hcz20_3 hfz13_0 hfz13_1 hfz13_2 hfz13_3 hfz14_0 hfz14_1 hfz14_2 hfz14_3 hfz16_0 hfz16_1 hfz16_2 hfz16_3 hfz17_0 hfz17_1 hfz17_2 hfz17_3 hfz19_0 hfz19_1 hfz19_2 hfz19_3 hfz20_0 hfz20_1 hfz20_2 hfz20_3
     try clear p2
     obtain ⟨x5_2, rfl, HA, HK2, BK401, BK402, HB⟩ := hrel
     cases gk with
     | zero => exact absurd HA.out (by simp [minstrelref19_Same.l0])
     | succ k2 =>
      have H := HA.out
      clear HA
      simp only [minstrelref19_Same.l0] at H
      by_cases c22 : x5_2 < (l0_3.length : Int)
      ·rw [if_pos c22] at H
       have c22b0 : decide (x5_2 < (l0_3.length : Int)) = true := decide_eq_true c22
       clear c22
       by_cases c23 : 0 ≤ x5_2
       ·rw [if_pos c23] at H
        have c23b0 : decide (0 ≤ x5_2) = true := decide_eq_true c23
        clear c23
        by_cases c24 : x5_2 < (l1_3.length : Int)
        ·rw [if_pos c24] at H
         have c24b0 : decide (x5_2 < (l1_3.length : Int)) = true := decide_eq_true c24
         clear c24
         by_cases c25 : (rd l0_3 x5_2) = (rd l1_3 x5_2)
         ·rw [if_pos c25] at H
          have c25b0 : ((rd l0_3 x5_2) == (rd l1_3 x5_2)) = true := beq_iff_eq.mpr c25
          have c25b1 : ((rd l0_3 x5_2) != (rd l1_3 x5_2)) = false := bne_eq_false_iff_eq.mpr c25
          clear c25
          have H' := am H
          clear H
          have hnb26 := NB401_402.out
          have hnc26 := NB402_401.out
          have q27 := cf4 BK401.out
          have p403 : 0 ≤ (x5_2 : Int) := pD
          have q403 : x5_2 < (l0_3.length : Int) := pD
          obtain ⟨ad403, e403, hx403_0⟩ := Kd.at_int HR0_3.out x5_2 p403 q403
          cases e403
          replace hx403_0 := (HB.out.cell (World.block_lt_of_cell? w _ hx403_0)).trans hx403_0
          replace p403 := eq_true p403
          replace q403 := eq_true q403
          obtain ⟨hcz28_0, hcz28_1, hcz28_2, hcz28_3, hfz28_0, hfz28_1, hfz28_2, hfz28_3⟩ := cf4 BK402.out
          have p404 : 0 ≤ (x5_2 : Int) := pD
          have q404 : x5_2 < (l1_3.length : Int) := pD
          obtain ⟨ad404, e404, hx404_0⟩ := Kd.at_int HR1_3.out x5_2 p404 q404
          cases e404
          replace hx404_0 := (HB.out.cell (World.block_lt_of_cell? w _ hx404_0)).trans hx404_0
          replace p404 := eq_true p404
          replace q404 := eq_true q404
          go_wp2
          repeat (go_quiet (fail); try go_wp2)
          go_roundg k2
          case measure => have := HJ2.out; have := HK2.out; omega
          case rel => exact ⟨(wrap64 (x5_2 + 1)), (by first | rfl | (simp; done) | (simp [*]; done)), H', ⟨by have := HJ2.out; have := HK2.out; omega⟩, ⟨by (with_reducible repeat (first | refine blk_drewN ?_ _ | refine blk_drew ?_ | refine blk_alloc ?_ _)); exact BK401.out⟩, ⟨by (with_reducible repeat (first | refine blk_drewN ?_ _ | refine blk_drew ?_ | refine blk_alloc ?_ _)); exact BK402.out⟩, ⟨pB⟩⟩
         ·rw [if_neg c25] at H
          have c25b0 : ((rd l0_3 x5_2) == (rd l1_3 x5_2)) = false := beq_eq_false_iff_ne.mpr c25
          have c25b1 : ((rd l0_3 x5_2) != (rd l1_3 x5_2)) = true := bne_iff_ne.mpr c25
          obtain rfl := Option.some.inj H
          have hnb29 := NB401_402.out
          have hnc29 := NB402_401.out
          have q30 := cf4 BK401.out
          have p403 : 0 ≤ (x5_2 : Int) := pD
          have q403 : x5_2 < (l0_3.length : Int) := pD
          obtain ⟨ad403, e403, hx403_0⟩ := Kd.at_int HR0_3.out x5_2 p403 q403
          cases e403
          replace hx403_0 := (HB.out.cell (World.block_lt_of_cell? w _ hx403_0)).trans hx403_0
          replace p403 := eq_true p403
          replace q403 := eq_true q403
          have q31 := cf4 BK402.out
          have p404 : 0 ≤ (x5_2 : Int) := pD
          have q404 : x5_2 < (l1_3.length : Int) := pD
          obtain ⟨ad404, e404, hx404_0⟩ := Kd.at_int HR1_3.out x5_2 p404 q404
          cases e404
          replace hx404_0 := (HB.out.cell (World.block_lt_of_cell? w _ hx404_0)).trans hx404_0
          replace p404 := eq_true p404
          replace q404 := eq_true q404
          go_wp2
          repeat (go_quiet (fail); try go_wp2)
          go_ret
          exact ⟨pE, pB⟩
        ·rw [if_neg c24] at H
         exact absurd H (by simp)
       ·rw [if_neg c23] at H
        exact absurd H (by simp)
      ·rw [if_neg c22] at H
       have c22b0 : decide (x5_2 < (l0_3.length : Int)) = false := decide_eq_false c22
       clear c22
       obtain rfl := Option.some.inj H
       have hnb32 := NB401_402.out
       have hnc32 := NB402_401.out
       have q33 := cf4 BK401.out
       go_wp2
       repeat (go_quiet (fail); try go_wp2)
       go_ret
       exact ⟨pE, pB⟩
def minstrelref19_Snaps.f (k : Nat) (a0_0 : Int) (a0_1 : Int) (l0_2 : List Int) (a0_3 : Int) (a0_4 : Int) (a0_5 : ByteArray) (l0_6 : List (S26)) (a0_7 : Int) (a0_8 : Int) (a0_9 : ByteArray) (l0_10 : List (S26)) (a1_0 : Int) (a1_1 : Int) (l1_2 : List Int) (a1_3 : Int) (a1_4 : Int) (a1_5 : ByteArray) (l1_6 : List (S26)) (a1_7 : Int) (a1_8 : Int) (a1_9 : ByteArray) (l1_10 : List (S26)) : Option (Bool) := if a0_0 = a1_0 then (if a0_1 = a1_1 then ((minstrelref19_Same.f k 0 0 (⟨#[]⟩ : ByteArray) l0_2 0 0 (⟨#[]⟩ : ByteArray) l1_2).bind fun t407 => (if t407 = true then ((minstrelref07_Same.f k a0_3 a0_4 a0_5 l0_6 a1_3 a1_4 a1_5 l1_6).bind fun t408 => (if t408 = true then ((minstrelref07_Same.f k a0_7 a0_8 a0_9 l0_10 a1_7 a1_8 a1_9 l1_10).bind fun t409 => (some t409)) else (some false))) else (some false))) else (some false)) else (some false)
theorem minstrelref19_Snaps.mono : ∀ a0 a1 a2 a3 a4 a5 a6 a7 a8 a9 a10 a11 a12 a13 a14 a15 a16 a17 a18 a19 a20 a21 k, LeO (minstrelref19_Snaps.f k a0 a1 a2 a3 a4 a5 a6 a7 a8 a9 a10 a11 a12 a13 a14 a15 a16 a17 a18 a19 a20 a21) (minstrelref19_Snaps.f (k + 1) a0 a1 a2 a3 a4 a5 a6 a7 a8 a9 a10 a11 a12 a13 a14 a15 a16 a17 a18 a19 a20 a21) := by
 intro a0 a1 a2 a3 a4 a5 a6 a7 a8 a9 a10 a11 a12 a13 a14 a15 a16 a17 a18 a19 a20 a21 k
 unfold minstrelref19_Snaps.f
 repeat' first
   | (with_reducible exact minstrelref07_Same.mono _ _ _ _ _ _ _ _ _)
   | (with_reducible exact minstrelref19_Same.mono _ _ _ _ _ _ _ _ _)
   | (with_reducible exact LeO.refl _)
   | (with_reducible exact LeO.none _)
   | (with_reducible refine LeO.ite ?_ ?_)
   | (with_reducible refine LeO.bind ?_ (fun _ => ?_))
   | exact minstrelref07_Same.mono _ _ _ _ _ _ _ _ _
   | exact minstrelref19_Same.mono _ _ _ _ _ _ _ _ _
   | exact LeO.none _
   | refine LeO.ite ?_ ?_
   | refine LeO.bind ?_ (fun _ => ?_)
set_option maxHeartbeats 8000000 in
set_option maxRecDepth 100000 in
theorem minstrelref19_Snaps.calls (k : Nat) (a0_0 : Int) (a0_1 : Int) (A0_2 : Option Addr) (c0_2 : Nat) (l0_2 : List Int) (a0_3 : Int) (a0_4 : Int) (a0_5 : ByteArray) (A0_6 : Option Addr) (c0_6 : Nat) (l0_6 : List (S26)) (a0_7 : Int) (a0_8 : Int) (a0_9 : ByteArray) (A0_10 : Option Addr) (c0_10 : Nat) (l0_10 : List (S26)) (a1_0 : Int) (a1_1 : Int) (A1_2 : Option Addr) (c1_2 : Nat) (l1_2 : List Int) (a1_3 : Int) (a1_4 : Int) (a1_5 : ByteArray) (A1_6 : Option Addr) (c1_6 : Nat) (l1_6 : List (S26)) (a1_7 : Int) (a1_8 : Int) (a1_9 : ByteArray) (A1_10 : Option Addr) (c1_10 : Nat) (l1_10 : List (S26)) (r : Bool) (w : World) (hr0_2 : Kd.C (Kd.int .i64) w A0_2 l0_2.length l0_2) (hc0_2 : l0_2.length ≤ c0_2) (hr0_6 : Kd.C k26 w A0_6 l0_6.length l0_6) (hc0_6 : l0_6.length ≤ c0_6) (hr0_10 : Kd.C k26 w A0_10 l0_10.length l0_10) (hc0_10 : l0_10.length ≤ c0_10) (hr1_2 : Kd.C (Kd.int .i64) w A1_2 l1_2.length l1_2) (hc1_2 : l1_2.length ≤ c1_2) (hr1_6 : Kd.C k26 w A1_6 l1_6.length l1_6) (hc1_6 : l1_6.length ≤ c1_6) (hr1_10 : Kd.C k26 w A1_10 l1_10.length l1_10) (hc1_10 : l1_10.length ≤ c1_10) (h : minstrelref19_Snaps.f k a0_0 a0_1 l0_2 a0_3 a0_4 a0_5 l0_6 a0_7 a0_8 a0_9 l0_10 a1_0 a1_1 l1_2 a1_3 a1_4 a1_5 l1_6 a1_7 a1_8 a1_9 l1_10 = some r) :
  Calls Tryd.prog 15 #[.agg #[.int .u64 a0_0, .int .u64 a0_1, .slice A0_2 l0_2.length c0_2, .int .i64 a0_3, .int .u64 a0_4, .string a0_5, .slice A0_6 l0_6.length c0_6, .int .i64 a0_7, .int .u64 a0_8, .string a0_9, .slice A0_10 l0_10.length c0_10], .agg #[.int .u64 a1_0, .int .u64 a1_1, .slice A1_2 l1_2.length c1_2, .int .i64 a1_3, .int .u64 a1_4, .string a1_5, .slice A1_6 l1_6.length c1_6, .int .i64 a1_7, .int .u64 a1_8, .string a1_9, .slice A1_10 l1_10.length c1_10]] w fun e w' => e = .returned (.bool r) ∧ Below w.heap.size w w' := by
 have hu28 := Tryd.underlying28
 have hu46 := Tryd.underlying46
 have hu26 := Tryd.underlying26
 have HR0_2 := am hr0_2
 have HC0_2 := am hc0_2
 clear hr0_2 hc0_2
 have HR0_6 := am hr0_6
 have HC0_6 := am hc0_6
 clear hr0_6 hc0_6
 have HR0_10 := am hr0_10
 have HC0_10 := am hc0_10
 clear hr0_10 hc0_10
 have HR1_2 := am hr1_2
 have HC1_2 := am hc1_2
 clear hr1_2 hc1_2
 have HR1_6 := am hr1_6
 have HC1_6 := am hc1_6
 clear hr1_6 hc1_6
 have HR1_10 := am hr1_10
 have HC1_10 := am hc1_10
 clear hr1_10 hc1_10
 have HB := am (Below.refl w.heap.size w)
 have H : (if a0_0 = a1_0 then (if a0_1 = a1_1 then ((minstrelref19_Same.f k 0 0 (⟨#[]⟩ : ByteArray) l0_2 0 0 (⟨#[]⟩ : ByteArray) l1_2).bind fun t407 => (if t407 = true then ((minstrelref07_Same.f k a0_3 a0_4 a0_5 l0_6 a1_3 a1_4 a1_5 l1_6).bind fun t408 => (if t408 = true then ((minstrelref07_Same.f k a0_7 a0_8 a0_9 l0_10 a1_7 a1_8 a1_9 l1_10).bind fun t409 => (some t409)) else (some false))) else (some false))) else (some false)) else (some false)) = some r := h
 clear h
 by_cases c3 : a0_0 = a1_0
 ·rw [if_pos c3] at H
  have c3b0 : (a0_0 == a1_0) = true := beq_iff_eq.mpr c3
  have c3b1 : (a0_0 != a1_0) = false := bne_eq_false_iff_eq.mpr c3
  clear c3
  by_cases c4 : a0_1 = a1_1
  ·rw [if_pos c4] at H
   have c4b0 : (a0_1 == a1_1) = true := beq_iff_eq.mpr c4
   have c4b1 : (a0_1 != a1_1) = false := bne_eq_false_iff_eq.mpr c4
   clear c4
   replace H := Option.bind_eq_some_iff.mp H
   obtain ⟨t407, A50, H⟩ := H
   try dsimp only at H
   have A5 := am A50
   clear A50
   by_cases c6 : t407 = true
   ·subst c6
    rw [if_pos rfl] at H
    replace H := Option.bind_eq_some_iff.mp H
    obtain ⟨t408, A70, H⟩ := H
    try dsimp only at H
    have A7 := am A70
    clear A70
    by_cases c8 : t408 = true
    ·subst c8
     rw [if_pos rfl] at H
     replace H := Option.bind_eq_some_iff.mp H
     obtain ⟨t409, A90, H⟩ := H
     try dsimp only at H
     have A9 := am A90
     clear A90
     obtain rfl := Option.some.inj H
     go_enter Tryd.func15, Tryd.ntmps15
     go_wp2_with (first | ((with_reducible refine gate_dst (N := 2) rfl ?_); refine box_event ?hg (N := 2) ?hd (cs := #[.int .u64 a0_0, .int .u64 a0_1, .slice A0_2 l0_2.length c0_2, .int .i64 a0_3, .int .u64 a0_4, .string a0_5, .slice A0_6 l0_6.length c0_6, .int .i64 a0_7, .int .u64 a0_8, .string a0_9, .slice A0_10 l0_10.length c0_10]) (t := 28) ?hr ?_; (case hd => rfl); (case hg => rfl); (case hr => first | (go_simp; done) | (go_simp; rfl)); intro gb405 hg w10 hbox hb; have BK405 := am (hbox); have GW405 := am ((by rw [hg]; exact (below_size pB) : w.heap.size ≤ gb405)); have GE405 := am ((by rw [hg]; exact (below_size pB) : w.heap.size ≤ gb405)); replace HB := am (below_step pB hb); clear hb hbox hg) | ((with_reducible refine gate_dst (N := 3) rfl ?_); refine box_event ?hg (N := 3) ?hd (cs := #[.int .u64 a1_0, .int .u64 a1_1, .slice A1_2 l1_2.length c1_2, .int .i64 a1_3, .int .u64 a1_4, .string a1_5, .slice A1_6 l1_6.length c1_6, .int .i64 a1_7, .int .u64 a1_8, .string a1_9, .slice A1_10 l1_10.length c1_10]) (t := 28) ?hr ?_; (case hd => rfl); (case hg => rfl); (case hr => first | (go_simp; done) | (go_simp; rfl)); intro gb406 hg w11 hbox hb; have BK406 := am (hbox); have GW406 := am ((by rw [hg]; exact (below_size pB) : w.heap.size ≤ gb406)); have GE406 := am ((by rw [hg]; exact (below_size pB) : w.heap.size ≤ gb406)); have NB405_406 := am ((by rw [hg]; exact Nat.ne_of_lt (pkl BK405.out) : gb405 ≠ gb406)); have NB406_405 := am ((by rw [hg]; exact Nat.ne_of_gt (pkl BK405.out) : gb406 ≠ gb405)); replace BK405 := am (pkb BK405.out hb); replace HB := am (below_step pB hb); clear hb hbox hg; have hnb12 := NB405_406.out; have hnc12 := NB406_405.out; obtain ⟨hcz13_0, hcz13_1, hcz13_2, hcz13_3, hcz13_4, hcz13_5, hcz13_6, hcz13_7, hcz13_8, hcz13_9, hcz13_10, hfz13_0, hfz13_1, hfz13_2, hfz13_3, hfz13_4, hfz13_5, hfz13_6, hfz13_7, hfz13_8, hfz13_9, hfz13_10⟩ := cf11 BK405.out; obtain ⟨hcz14_0, hcz14_1, hcz14_2, hcz14_3, hcz14_4, hcz14_5, hcz14_6, hcz14_7, hcz14_8, hcz14_9, hcz14_10, hfz14_0, hfz14_1, hfz14_2, hfz14_3, hfz14_4, hfz14_5, hfz14_6, hfz14_7, hfz14_8, hfz14_9, hfz14_10⟩ := cf11 BK406.out) | (go_at_call 23; (with_reducible refine (minstrelref19_Same.calls k 0 0 (⟨#[]⟩ : ByteArray) _ _ l0_2 0 0 (⟨#[]⟩ : ByteArray) _ _ l1_2 true _ ?side1 ?side2 ?side3 ?side4 A5.out).mono ?_); (case side1 => exact pC (Kd.C_below HR0_2.out HB.out)); (case side2 => exact HC0_2.out); (case side3 => exact pC (Kd.C_below HR1_2.out HB.out)); (case side4 => exact HC1_2.out); rintro e w15 ⟨rfl, hb⟩; replace BK405 := am (pkb BK405.out hb); replace BK406 := am (pkb BK406.out hb); replace HB := am (below_step pB hb); (try clear hb); (try clear hb2); (try clear hk); (try clear hi); obtain ⟨hcz16_0, hcz16_1, hcz16_2, hcz16_3, hcz16_4, hcz16_5, hcz16_6, hcz16_7, hcz16_8, hcz16_9, hcz16_10, hfz16_0, hfz16_1, hfz16_2, hfz16_3, hfz16_4, hfz16_5, hfz16_6, hfz16_7, hfz16_8, hfz16_9, hfz16_10⟩ := cf11 BK405.out; obtain ⟨hcz17_0, hcz17_1, hcz17_2, hcz17_3, hcz17_4, hcz17_5, hcz17_6, hcz17_7, hcz17_8, hcz17_9, hcz17_10, hfz17_0, hfz17_1, hfz17_2, hfz17_3, hfz17_4, hfz17_5, hfz17_6, hfz17_7, hfz17_8, hfz17_9, hfz17_10⟩ := cf11 BK406.out) | (go_at_call 19; (with_reducible refine (minstrelref07_Same.calls k a0_3 a0_4 a0_5 _ _ l0_6 a1_3 a1_4 a1_5 _ _ l1_6 true _ ?side1 ?side2 ?side3 ?side4 A7.out).mono ?_); (case side1 => exact pC (Kd.C_below HR0_6.out HB.out)); (case side2 => exact HC0_6.out); (case side3 => exact pC (Kd.C_below HR1_6.out HB.out)); (case side4 => exact HC1_6.out); rintro e w18 ⟨rfl, hb⟩; replace BK405 := am (pkb BK405.out hb); replace BK406 := am (pkb BK406.out hb); replace HB := am (below_step pB hb); (try clear hb); (try clear hb2); (try clear hk); (try clear hi); obtain ⟨hcz19_0, hcz19_1, hcz19_2, hcz19_3, hcz19_4, hcz19_5, hcz19_6, hcz19_7, hcz19_8, hcz19_9, hcz19_10, hfz19_0, hfz19_1, hfz19_2, hfz19_3, hfz19_4, hfz19_5, hfz19_6, hfz19_7, hfz19_8, hfz19_9, hfz19_10⟩ := cf11 BK405.out; obtain ⟨hcz20_0, hcz20_1, hcz20_2, hcz20_3, hcz20_4, hcz20_5, hcz20_6, hcz20_7, hcz20_8, hcz20_9, hcz20_10, hfz20_0, hfz20_1, hfz20_2, hfz20_3, hfz20_4, hfz20_5, hfz20_6, hfz20_7, hfz20_8, hfz20_9, hfz20_10⟩ := cf11 BK406.out) | (go_at_call 19; (with_reducible refine (minstrelref07_Same.calls k a0_7 a0_8 a0_9 _ _ l0_10 a1_7 a1_8 a1_9 _ _ l1_10 t409 _ ?side1 ?side2 ?side3 ?side4 A9.out).mono ?_); (case side1 => exact pC (Kd.C_below HR0_10.out HB.out)); (case side2 => exact HC0_10.out); (case side3 => exact pC (Kd.C_below HR1_10.out HB.out)); (case side4 => exact HC1_10.out); rintro e w21 ⟨rfl, hb⟩; replace BK405 := am (pkb BK405.out hb); replace BK406 := am (pkb BK406.out hb); replace HB := am (below_step pB hb); (try clear hb); (try clear hb2); (try clear hk); (try clear hi)))
     go_ret
     exact ⟨pE, pB⟩
    ·replace c8 := Bool.eq_false_iff.mpr c8
     subst c8
     rw [if_neg (show ¬ (false = true) by decide)] at H
     obtain rfl := Option.some.inj H
     go_enter Tryd.func15, Tryd.ntmps15
     go_wp2_with (first | ((with_reducible refine gate_dst (N := 2) rfl ?_); refine box_event ?hg (N := 2) ?hd (cs := #[.int .u64 a0_0, .int .u64 a0_1, .slice A0_2 l0_2.length c0_2, .int .i64 a0_3, .int .u64 a0_4, .string a0_5, .slice A0_6 l0_6.length c0_6, .int .i64 a0_7, .int .u64 a0_8, .string a0_9, .slice A0_10 l0_10.length c0_10]) (t := 28) ?hr ?_; (case hd => rfl); (case hg => rfl); (case hr => first | (go_simp; done) | (go_simp; rfl)); intro gb405 hg w22 hbox hb; have BK405 := am (hbox); have GW405 := am ((by rw [hg]; exact (below_size pB) : w.heap.size ≤ gb405)); have GE405 := am ((by rw [hg]; exact (below_size pB) : w.heap.size ≤ gb405)); replace HB := am (below_step pB hb); clear hb hbox hg) | ((with_reducible refine gate_dst (N := 3) rfl ?_); refine box_event ?hg (N := 3) ?hd (cs := #[.int .u64 a1_0, .int .u64 a1_1, .slice A1_2 l1_2.length c1_2, .int .i64 a1_3, .int .u64 a1_4, .string a1_5, .slice A1_6 l1_6.length c1_6, .int .i64 a1_7, .int .u64 a1_8, .string a1_9, .slice A1_10 l1_10.length c1_10]) (t := 28) ?hr ?_; (case hd => rfl); (case hg => rfl); (case hr => first | (go_simp; done) | (go_simp; rfl)); intro gb406 hg w23 hbox hb; have BK406 := am (hbox); have GW406 := am ((by rw [hg]; exact (below_size pB) : w.heap.size ≤ gb406)); have GE406 := am ((by rw [hg]; exact (below_size pB) : w.heap.size ≤ gb406)); have NB405_406 := am ((by rw [hg]; exact Nat.ne_of_lt (pkl BK405.out) : gb405 ≠ gb406)); have NB406_405 := am ((by rw [hg]; exact Nat.ne_of_gt (pkl BK405.out) : gb406 ≠ gb405)); replace BK405 := am (pkb BK405.out hb); replace HB := am (below_step pB hb); clear hb hbox hg; have hnb24 := NB405_406.out; have hnc24 := NB406_405.out; have q25 := cf11 BK405.out; have q26 := cf11 BK406.out) | (go_at_call 23; (with_reducible refine (minstrelref19_Same.calls k 0 0 (⟨#[]⟩ : ByteArray) _ _ l0_2 0 0 (⟨#[]⟩ : ByteArray) _ _ l1_2 true _ ?side1 ?side2 ?side3 ?side4 A5.out).mono ?_); (case side1 => exact pC (Kd.C_below HR0_2.out HB.out)); (case side2 => exact HC0_2.out); (case side3 => exact pC (Kd.C_below HR1_2.out HB.out)); (case side4 => exact HC1_2.out); rintro e w27 ⟨rfl, hb⟩; replace BK405 := am (pkb BK405.out hb); replace BK406 := am (pkb BK406.out hb); replace HB := am (below_step pB hb); (try clear hb); (try clear hb2); (try clear hk); (try clear hi); obtain ⟨hcz28_0, hcz28_1, hcz28_2, hcz28_3, hcz28_4, hcz28_5, hcz28_6, hcz28_7, hcz28_8, hcz28_9, hcz28_10, hfz28_0, hfz28_1, hfz28_2, hfz28_3, hfz28_4, hfz28_5, hfz28_6, hfz28_7, hfz28_8, hfz28_9, hfz28_10⟩ := cf11 BK405.out; have q29 := cf11 BK406.out) | (go_at_call 19; (with_reducible refine (minstrelref07_Same.calls k a0_3 a0_4 a0_5 _ _ l0_6 a1_3 a1_4 a1_5 _ _ l1_6 false _ ?side1 ?side2 ?side3 ?side4 A7.out).mono ?_); (case side1 => exact pC (Kd.C_below HR0_6.out HB.out)); (case side2 => exact HC0_6.out); (case side3 => exact pC (Kd.C_below HR1_6.out HB.out)); (case side4 => exact HC1_6.out); rintro e w30 ⟨rfl, hb⟩; replace BK405 := am (pkb BK405.out hb); replace BK406 := am (pkb BK406.out hb); replace HB := am (below_step pB hb); (try clear hb); (try clear hb2); (try clear hk); (try clear hi)))
     go_ret
     exact ⟨pE, pB⟩
   ·replace c6 := Bool.eq_false_iff.mpr c6
    subst c6
    rw [if_neg (show ¬ (false = true) by decide)] at H
    obtain rfl := Option.some.inj H
    go_enter Tryd.func15, Tryd.ntmps15
    go_wp2_with (first | ((with_reducible refine gate_dst (N := 2) rfl ?_); refine box_event ?hg (N := 2) ?hd (cs := #[.int .u64 a0_0, .int .u64 a0_1, .slice A0_2 l0_2.length c0_2, .int .i64 a0_3, .int .u64 a0_4, .string a0_5, .slice A0_6 l0_6.length c0_6, .int .i64 a0_7, .int .u64 a0_8, .string a0_9, .slice A0_10 l0_10.length c0_10]) (t := 28) ?hr ?_; (case hd => rfl); (case hg => rfl); (case hr => first | (go_simp; done) | (go_simp; rfl)); intro gb405 hg w31 hbox hb; have BK405 := am (hbox); have GW405 := am ((by rw [hg]; exact (below_size pB) : w.heap.size ≤ gb405)); have GE405 := am ((by rw [hg]; exact (below_size pB) : w.heap.size ≤ gb405)); replace HB := am (below_step pB hb); clear hb hbox hg) | ((with_reducible refine gate_dst (N := 3) rfl ?_); refine box_event ?hg (N := 3) ?hd (cs := #[.int .u64 a1_0, .int .u64 a1_1, .slice A1_2 l1_2.length c1_2, .int .i64 a1_3, .int .u64 a1_4, .string a1_5, .slice A1_6 l1_6.length c1_6, .int .i64 a1_7, .int .u64 a1_8, .string a1_9, .slice A1_10 l1_10.length c1_10]) (t := 28) ?hr ?_; (case hd => rfl); (case hg => rfl); (case hr => first | (go_simp; done) | (go_simp; rfl)); intro gb406 hg w32 hbox hb; have BK406 := am (hbox); have GW406 := am ((by rw [hg]; exact (below_size pB) : w.heap.size ≤ gb406)); have GE406 := am ((by rw [hg]; exact (below_size pB) : w.heap.size ≤ gb406)); have NB405_406 := am ((by rw [hg]; exact Nat.ne_of_lt (pkl BK405.out) : gb405 ≠ gb406)); have NB406_405 := am ((by rw [hg]; exact Nat.ne_of_gt (pkl BK405.out) : gb406 ≠ gb405)); replace BK405 := am (pkb BK405.out hb); replace HB := am (below_step pB hb); clear hb hbox hg; have hnb33 := NB405_406.out; have hnc33 := NB406_405.out; have q34 := cf11 BK405.out; have q35 := cf11 BK406.out) | (go_at_call 23; (with_reducible refine (minstrelref19_Same.calls k 0 0 (⟨#[]⟩ : ByteArray) _ _ l0_2 0 0 (⟨#[]⟩ : ByteArray) _ _ l1_2 false _ ?side1 ?side2 ?side3 ?side4 A5.out).mono ?_); (case side1 => exact pC (Kd.C_below HR0_2.out HB.out)); (case side2 => exact HC0_2.out); (case side3 => exact pC (Kd.C_below HR1_2.out HB.out)); (case side4 => exact HC1_2.out); rintro e w36 ⟨rfl, hb⟩; replace BK405 := am (pkb BK405.out hb); replace BK406 := am (pkb BK406.out hb); replace HB := am (below_step pB hb); (try clear hb); (try clear hb2); (try clear hk); (try clear hi)))
    go_ret
    exact ⟨pE, pB⟩
  ·rw [if_neg c4] at H
   have c4b0 : (a0_1 == a1_1) = false := beq_eq_false_iff_ne.mpr c4
   have c4b1 : (a0_1 != a1_1) = true := bne_iff_ne.mpr c4
   obtain rfl := Option.some.inj H
   go_enter Tryd.func15, Tryd.ntmps15
   go_wp2_with (first | ((with_reducible refine gate_dst (N := 2) rfl ?_); refine box_event ?hg (N := 2) ?hd (cs := #[.int .u64 a0_0, .int .u64 a0_1, .slice A0_2 l0_2.length c0_2, .int .i64 a0_3, .int .u64 a0_4, .string a0_5, .slice A0_6 l0_6.length c0_6, .int .i64 a0_7, .int .u64 a0_8, .string a0_9, .slice A0_10 l0_10.length c0_10]) (t := 28) ?hr ?_; (case hd => rfl); (case hg => rfl); (case hr => first | (go_simp; done) | (go_simp; rfl)); intro gb405 hg w37 hbox hb; have BK405 := am (hbox); have GW405 := am ((by rw [hg]; exact (below_size pB) : w.heap.size ≤ gb405)); have GE405 := am ((by rw [hg]; exact (below_size pB) : w.heap.size ≤ gb405)); replace HB := am (below_step pB hb); clear hb hbox hg) | ((with_reducible refine gate_dst (N := 3) rfl ?_); refine box_event ?hg (N := 3) ?hd (cs := #[.int .u64 a1_0, .int .u64 a1_1, .slice A1_2 l1_2.length c1_2, .int .i64 a1_3, .int .u64 a1_4, .string a1_5, .slice A1_6 l1_6.length c1_6, .int .i64 a1_7, .int .u64 a1_8, .string a1_9, .slice A1_10 l1_10.length c1_10]) (t := 28) ?hr ?_; (case hd => rfl); (case hg => rfl); (case hr => first | (go_simp; done) | (go_simp; rfl)); intro gb406 hg w38 hbox hb; have BK406 := am (hbox); have GW406 := am ((by rw [hg]; exact (below_size pB) : w.heap.size ≤ gb406)); have GE406 := am ((by rw [hg]; exact (below_size pB) : w.heap.size ≤ gb406)); have NB405_406 := am ((by rw [hg]; exact Nat.ne_of_lt (pkl BK405.out) : gb405 ≠ gb406)); have NB406_405 := am ((by rw [hg]; exact Nat.ne_of_gt (pkl BK405.out) : gb406 ≠ gb405)); replace BK405 := am (pkb BK405.out hb); replace HB := am (below_step pB hb); clear hb hbox hg; have hnb39 := NB405_406.out; have hnc39 := NB406_405.out; have q40 := cf11 BK405.out; have q41 := cf11 BK406.out))
   go_ret
   exact ⟨pE, pB⟩
 ·rw [if_neg c3] at H
  have c3b0 : (a0_0 == a1_0) = false := beq_eq_false_iff_ne.mpr c3
  have c3b1 : (a0_0 != a1_0) = true := bne_iff_ne.mpr c3
  obtain rfl := Option.some.inj H
  go_enter Tryd.func15, Tryd.ntmps15
  go_wp2_with (first | ((with_reducible refine gate_dst (N := 2) rfl ?_); refine box_event ?hg (N := 2) ?hd (cs := #[.int .u64 a0_0, .int .u64 a0_1, .slice A0_2 l0_2.length c0_2, .int .i64 a0_3, .int .u64 a0_4, .string a0_5, .slice A0_6 l0_6.length c0_6, .int .i64 a0_7, .int .u64 a0_8, .string a0_9, .slice A0_10 l0_10.length c0_10]) (t := 28) ?hr ?_; (case hd => rfl); (case hg => rfl); (case hr => first | (go_simp; done) | (go_simp; rfl)); intro gb405 hg w42 hbox hb; have BK405 := am (hbox); have GW405 := am ((by rw [hg]; exact (below_size pB) : w.heap.size ≤ gb405)); have GE405 := am ((by rw [hg]; exact (below_size pB) : w.heap.size ≤ gb405)); replace HB := am (below_step pB hb); clear hb hbox hg) | ((with_reducible refine gate_dst (N := 3) rfl ?_); refine box_event ?hg (N := 3) ?hd (cs := #[.int .u64 a1_0, .int .u64 a1_1, .slice A1_2 l1_2.length c1_2, .int .i64 a1_3, .int .u64 a1_4, .string a1_5, .slice A1_6 l1_6.length c1_6, .int .i64 a1_7, .int .u64 a1_8, .string a1_9, .slice A1_10 l1_10.length c1_10]) (t := 28) ?hr ?_; (case hd => rfl); (case hg => rfl); (case hr => first | (go_simp; done) | (go_simp; rfl)); intro gb406 hg w43 hbox hb; have BK406 := am (hbox); have GW406 := am ((by rw [hg]; exact (below_size pB) : w.heap.size ≤ gb406)); have GE406 := am ((by rw [hg]; exact (below_size pB) : w.heap.size ≤ gb406)); have NB405_406 := am ((by rw [hg]; exact Nat.ne_of_lt (pkl BK405.out) : gb405 ≠ gb406)); have NB406_405 := am ((by rw [hg]; exact Nat.ne_of_gt (pkl BK405.out) : gb406 ≠ gb405)); replace BK405 := am (pkb BK405.out hb); replace HB := am (below_step pB hb); clear hb hbox hg; have hnb44 := NB405_406.out; have hnc44 := NB406_405.out; have q45 := cf11 BK405.out; have q46 := cf11 BK406.out))
  go_ret
  exact ⟨pE, pB⟩
end Go.Proofs.YtlkaffbgekbcfaaDoor.Pr
end
section
namespace Go.Proofs.YtlkaffbgekbcfaaDoor.Pr
open Go.RowKit Go.Proofs.YtlkaffbgekbcfaaDoorW.PrintWords Go.Proofs.YtlkaffbgekbcfaaDoorW.PrintLast Go.Proofs.YtlkaffbgekbcfaaDoorW.PrintMore
attribute [local go_sem] max2_int min2_int max_two min_two max_three min_three max_four min_four
def minstrelref07_bytes.l0 : Nat → Int → List Int → Int → Option (List Int)
 | 0, _, _, _ => none
 | k + 1, x0, x5, x6 => if x6 ≥ 0 then (if 0 ≤ (IntKind.u64.wrap (wrap64 (8 * x6))) then (if x5.length < 140737488355328 then (minstrelref07_bytes.l0 k x0 (x5 ++ [(Go.bits .and .u64 (shr .u64 x0 (IntKind.u64.wrap (wrap64 (8 * x6)))) 255) % 256]) (wrap64 (x6 - 1))) else (none)) else (none)) else (some x5)
def minstrelref07_bytes.f (k : Nat) (a0 : Int) (a1 : Int) : Option (List Int) := minstrelref07_bytes.l0 k a0 (([] : List Int)) (wrap64 (a1 - 1))
theorem minstrelref07_bytes.mono_l : ∀ k, (∀ y0 y1 y2, LeO (minstrelref07_bytes.l0 k y0 y1 y2) (minstrelref07_bytes.l0 (k + 1) y0 y1 y2))
 | 0 => fun _ _ _ r h => by simp [minstrelref07_bytes.l0] at h
 | k + 1 => by
  have ih0 := minstrelref07_bytes.mono_l k
  ·intro y0 y1 y2
   unfold minstrelref07_bytes.l0
   repeat' first
   | (with_reducible exact ih0 _ _ _)
   | (with_reducible exact LeO.refl _)
   | (with_reducible exact LeO.none _)
   | (with_reducible refine LeO.ite ?_ ?_)
   | (with_reducible refine LeO.bind ?_ (fun _ => ?_))
   | exact ih0 _ _ _
   | exact LeO.none _
   | refine LeO.ite ?_ ?_
   | refine LeO.bind ?_ (fun _ => ?_)
theorem minstrelref07_bytes.mono : ∀ a0 a1 k, LeO (minstrelref07_bytes.f k a0 a1) (minstrelref07_bytes.f (k + 1) a0 a1) := by
 intro a0 a1 k
 have ih0 := minstrelref07_bytes.mono_l k
 unfold minstrelref07_bytes.f
 repeat' first
   | (with_reducible exact ih0 _ _ _)
   | (with_reducible exact LeO.refl _)
   | (with_reducible exact LeO.none _)
   | (with_reducible refine LeO.ite ?_ ?_)
   | (with_reducible refine LeO.bind ?_ (fun _ => ?_))
   | exact ih0 _ _ _
   | exact LeO.none _
   | refine LeO.ite ?_ ?_
   | refine LeO.bind ?_ (fun _ => ?_)
set_option maxHeartbeats 8000000 in
set_option maxRecDepth 100000 in
theorem minstrelref07_bytes.calls (k : Nat) (a0 : Int) (a1 : Int) (r : List Int) (w : World) (h : minstrelref07_bytes.f k a0 a1 = some r) :
  Calls Tryd.prog 61 #[.int .u64 a0, .int .i64 a1] w fun e w' => ∃ v0_ : Value, e = .returned (v0_) ∧ Kd.R (Kd.int .u8) 5 w' w.heap.size (fun _ => True) v0_ r ∧ Below w.heap.size w w' := by
 have HB := am (Below.refl w.heap.size w)
 have H : (minstrelref07_bytes.l0 k a0 (([] : List Int)) (wrap64 (a1 - 1))) = some r := h
 clear h
 obtain ⟨y265, hy265⟩ : ∃ y_ : List Int, y_ = (([] : List Int)) := ⟨_, rfl⟩
 replace H : (minstrelref07_bytes.l0 k a0 y265 (wrap64 (a1 - 1))) = some r := by first | (rw [hy265]; with_reducible exact H) | (have H2_ := (Option.bind_some _ _).symm.trans H; rw [hy265]; with_reducible exact H2_) | (have H2_ := (Option.bind_some _ _).symm.trans H; with_reducible exact H2_) | with_reducible exact H | (rw [hy265]; exact H) | exact H
 have Ny265 := am hy265
 clear hy265
 have H' := am H
 clear H
 go_enter Tryd.func61, Tryd.ntmps61
 go_wp2_with (first | ((with_reducible refine gate_dst (N := 7) rfl ?_); refine Kd.R_lit (Kd.int .u8) _ 5 ?hg (N := 7) ?hd (xs := ([] : List Int)) (inner := []) (ok := fun _ => True) (okp := fun _ => True) ?hr ?hp (fun _ hk => hk) trivial (Below.refl _ _) (Nat.le_refl _) (by simp) ?_; (case hd => rfl); (case hg => rfl); (case hr => first | (go_simp; done) | (go_simp; rfl)); (case hp => exact (Reps.none _ _)); intro v266 w3 ho4 hb hg_ hnew_; clear hg_ hnew_; (first | rw [← Ny265.out] at ho4 | (simp only [Int.reduceToNat] at ho4; rw [← Ny265.out] at ho4)); have HO267 := am (Kd.R_lower ho4 (below_size pB)); replace HB := am (below_step pB hb); clear hb ho4))
 go_loopg [5, 6] k (fun kq v5 v6 w' => ∃ (x5_1 : List Int) (x6_1 : Int), v6 = .int .i64 x6_1 ∧ Aside0 (minstrelref07_bytes.l0 kq a0 x5_1 x6_1 = some r) ∧ Aside0 (kq ≤ k) ∧ Aside0 (Kd.R (Kd.int .u8) 5 w' w.heap.size (fun _ => True) v5 x5_1) ∧ Aside0 (Below w.heap.size w w'))
 case atStart => exact ⟨(y265), (wrap64 (a1 - 1)), (by first | rfl | (simp; done) | (simp [*]; done)), H', ⟨Nat.le_refl _⟩, ⟨by (with_reducible repeat (first | apply Kd.R_alloc | apply Kd.R_drewN | apply Kd.R_drew)); exact HO267.out⟩, ⟨pB⟩⟩
 case round =>
  clear H'
  try clear p2
  obtain ⟨x5_1, x6_1, rfl, HA, HK1, HO_5, HB⟩ := hrel
  cases gk with
  | zero => exact absurd HA.out (by simp [minstrelref07_bytes.l0])
  | succ k1 =>
   have H := HA.out
   clear HA
   simp only [minstrelref07_bytes.l0] at H
   by_cases c5 : x6_1 ≥ 0
   ·rw [if_pos c5] at H
    have c5b0 : decide (0 ≤ x6_1) = true := decide_eq_true c5
    clear c5
    obtain ⟨ji6, hji6⟩ : ∃ j_ : Int, (IntKind.u64.wrap (wrap64 (8 * x6_1))) = j_ := ⟨_, rfl⟩
    replace H : (if 0 ≤ (ji6) then (if x5_1.length < 140737488355328 then (minstrelref07_bytes.l0 k1 a0 (x5_1 ++ [(Go.bits .and .u64 (shr .u64 a0 (ji6)) 255) % 256]) (wrap64 (x6_1 - 1))) else (none)) else (none)) = some r := by first | (rw [hji6] at H; exact H) | (simp only [hji6] at H ⊢; exact H)
    by_cases c7 : 0 ≤ (ji6)
    ·rw [if_pos c7] at H
     have c7b0 := eq_true c7
     have c7b1 : decide (0 ≤ (ji6)) = true := decide_eq_true c7
     clear c7
     obtain ⟨ji8, hji8⟩ : ∃ j_ : Int, (shr .u64 a0 (ji6)) = j_ := ⟨_, rfl⟩
     replace H : (if x5_1.length < 140737488355328 then (minstrelref07_bytes.l0 k1 a0 (x5_1 ++ [(Go.bits .and .u64 (ji8) 255) % 256]) (wrap64 (x6_1 - 1))) else (none)) = some r := by first | (rw [hji8] at H; exact H) | (simp only [hji8] at H ⊢; exact H)
     have hji8_ : (a0 / 2 ^ min (ji6).toNat 64) = ji8 := hji8
     have hji8z : (ji6) ≤ 64 → (a0 / 2 ^ (ji6).toNat) = ji8 := shr_small hji8
     by_cases c9 : x5_1.length < 140737488355328
     ·rw [if_pos c9] at H
      have LMc9 := am c9
      clear c9
      obtain ⟨y268, hy268⟩ : ∃ y_ : List Int, y_ = (x5_1 ++ [(Go.bits .and .u64 (ji8) 255) % 256]) := ⟨_, rfl⟩
      replace H : (minstrelref07_bytes.l0 k1 a0 y268 (wrap64 (x6_1 - 1))) = some r := by first | (rw [hy268]; with_reducible exact H) | (have H2_ := (Option.bind_some _ _).symm.trans H; rw [hy268]; with_reducible exact H2_) | (have H2_ := (Option.bind_some _ _).symm.trans H; with_reducible exact H2_) | with_reducible exact H | (rw [hy268]; exact H) | exact H
      have Ny268 := am hy268
      clear hy268
      have H' := am H
      clear H
      go_wp2_with (first | ((with_reducible refine gate_builtin (b := .append) (xs := #[.tmp 14, .tmp 22]) rfl ?_); at_builtin; refine Kd.R_append (Kd.int .u8) (w0 := w) w.heap.size rfl (.tmp 14) (.tmp 22) 31 5 (.int .u8 0) 1 rfl Tryd.underlying31 info5 rfl (by decide) (by omega) u5 x5_1 ((Go.bits .and .u64 (ji8) 255) % 256) [.int .u8 ((Go.bits .and .u64 (ji8) 255) % 256)] (fun _ => True) (fun _ => False) rfl rfl ?aP (fun _ hk => hk.elim) ?aF ?aO ?aB ?aS ?aL ?_; (case aP => exact rfl); (case aB => exact pB); (case aF => exact (fun _ _ => trivial)); (case aO => exact (pR HO_5.out)); (case aS => exact (below_size pB)); (case aL => have := LMc9.out; omega); intro v269 w10 ho hb hg hat; rw [← Ny268.out] at ho; replace HB := am (hb); have HO270 := am (ho); clear HO_5; clear ho hb hg hat))
      go_roundg k1
      case measure => have := HK1.out; omega
      case rel => exact ⟨(y268), (wrap64 (x6_1 - 1)), (by first | rfl | (simp; done) | (simp [*]; done)), H', ⟨by have := HK1.out; omega⟩, ⟨by (with_reducible repeat (first | apply Kd.R_alloc | apply Kd.R_drewN | apply Kd.R_drew)); exact HO270.out⟩, ⟨pB⟩⟩
     ·rw [if_neg c9] at H
      exact absurd H (by simp)
    ·rw [if_neg c7] at H
     exact absurd H (by simp)
   ·rw [if_neg c5] at H
    have c5b0 : decide (0 ≤ x6_1) = false := decide_eq_false c5
    clear c5
    obtain rfl := Option.some.inj H
    go_wp2
    go_ret
    exact ⟨_, pE, by (with_reducible repeat (first | apply Kd.R_alloc | apply Kd.R_drewN | apply Kd.R_drew)); exact HO_5.out, pB⟩
end Go.Proofs.YtlkaffbgekbcfaaDoor.Pr
end
section
namespace Go.Proofs.YtlkaffbgekbcfaaDoor.Pr
open Go.RowKit Go.Proofs.YtlkaffbgekbcfaaDoorW.PrintWords Go.Proofs.YtlkaffbgekbcfaaDoorW.PrintLast Go.Proofs.YtlkaffbgekbcfaaDoorW.PrintMore
attribute [local go_sem] max2_int min2_int max_two min_two max_three min_three max_four min_four
mutual
def minstrelref07_put.j0 : Nat → List Int → Int → Bool → Int → Int → ByteArray → List (S26) → Option (List Int × Int)
 | 0, _, _, _, _, _, _, _ => none
 | k + 1, x0, x2, x18, x272000, x272001, x272002, x272003 => if x18 = true then (some (([] : List Int), 1)) else (if x272000 = 2 then (minstrelref07_put.j1 k x0 x2 (decide (x2 ≥ 64)) x272000 x272001 x272002 x272003) else (minstrelref07_put.j1 k x0 x2 false x272000 x272001 x272002 x272003))
def minstrelref07_put.j1 : Nat → List Int → Int → Bool → Int → Int → ByteArray → List (S26) → Option (List Int × Int)
 | 0, _, _, _, _, _, _, _ => none
 | k + 1, x0, x2, x25, x272000, x272001, x272002, x272003 => if x25 = true then (some (([] : List Int), 2)) else (if x0.length < 140737488355328 then ((some (x0 ++ [(x272000) % 256] : List Int)).bind fun y272 => (if x272000 = 0 then ((minstrelref07_bytes.f k x272001 8).bind fun t275 => (if y272.length + t275.length < 140737488355328 then (minstrelref07_put.j2 k (y272 ++ t275) x2 x272000 x272001 x272002 x272003) else (none))) else (minstrelref07_put.j2 k y272 x2 x272000 x272001 x272002 x272003))) else (none))
def minstrelref07_put.j2 : Nat → List Int → Int → Int → Int → ByteArray → List (S26) → Option (List Int × Int)
 | 0, _, _, _, _, _, _ => none
 | k + 1, x0, x2, x272000, x272001, x272002, x272003 => if x272000 = 1 then ((minstrelref07_bytes.f k (IntKind.u64.wrap ((x272002.size : Int))) 4).bind fun t281 => (if x0.length + t281.length < 140737488355328 then ((some (x0 ++ t281 : List Int)).bind fun y284 => (if (wrap64 ((y284.length : Int) + (x272002.size : Int))) > 1048576 then (some (([] : List Int), 2)) else (if y284.length + x272002.size < 140737488355328 then (minstrelref07_put.j3 k (y284 ++ bytesOf x272002) x2 x272000 x272001 x272002 x272003) else (none)))) else (none))) else (minstrelref07_put.j3 k x0 x2 x272000 x272001 x272002 x272003)
def minstrelref07_put.j3 : Nat → List Int → Int → Int → Int → ByteArray → List (S26) → Option (List Int × Int)
 | 0, _, _, _, _, _, _ => none
 | k + 1, x0, x2, x272000, x272001, x272002, x272003 => if x272000 = 2 then ((minstrelref07_bytes.f k (IntKind.u64.wrap ((x272003.length : Int))) 4).bind fun t290 => (if x0.length + t290.length < 140737488355328 then (if (x272003.length : Int) > 1048576 then (some (([] : List Int), 2)) else (minstrelref07_put.j4 k (x0 ++ t290) x2 x272000 x272001 x272002 x272003)) else (none))) else (minstrelref07_put.j4 k x0 x2 x272000 x272001 x272002 x272003)
def minstrelref07_put.j4 : Nat → List Int → Int → Int → Int → ByteArray → List (S26) → Option (List Int × Int)
 | 0, _, _, _, _, _, _ => none
 | k + 1, x0, x2, x272000, x272001, x272002, x272003 => if (x0.length : Int) > 1048576 then (some (([] : List Int), 2)) else (minstrelref07_put.l0 k x0 x2 0 x272000 x272001 x272002 x272003)
def minstrelref07_put.l0 : Nat → List Int → Int → Int → Int → Int → ByteArray → List (S26) → Option (List Int × Int)
 | 0, _, _, _, _, _, _, _ => none
 | k + 1, x0, x2, x8, x272000, x272001, x272002, x272003 => if x272000 = 2 then (minstrelref07_put.j6 k x0 x2 x8 (decide (x8 < (x272003.length : Int))) x272000 x272001 x272002 x272003) else (minstrelref07_put.j6 k x0 x2 x8 false x272000 x272001 x272002 x272003)
def minstrelref07_put.j6 : Nat → List Int → Int → Int → Bool → Int → Int → ByteArray → List (S26) → Option (List Int × Int)
 | 0, _, _, _, _, _, _, _, _ => none
 | k + 1, x0, x2, x8, x87, x272000, x272001, x272002, x272003 => if x87 = true then (if 0 ≤ x8 then (if x8 < (x272003.length : Int) then ((minstrelref07_put.f k x0 ((rd_T26 x272003 x8).f0) ((rd_T26 x272003 x8).f1) ((rd_T26 x272003 x8).f2) ((rd_T26 x272003 x8).f3) (wrap64 (x2 + 1))).bind fun bt297 => (if bt297.2 = 0 then (minstrelref07_put.l0 k bt297.1 x2 (wrap64 (x8 + 1)) x272000 x272001 x272002 x272003) else (some (([] : List Int), bt297.2)))) else (none)) else (none)) else (some (x0, 0))
def minstrelref07_put.f : Nat → List Int → Int → Int → ByteArray → List (S26) → Int → Option (List Int × Int)
 | 0, _, _, _, _, _, _ => none
 | k + 1, l0, a1_0, a1_1, a1_2, l1_3, a2 => if a1_0 < 0 then (minstrelref07_put.j0 k l0 a2 true a1_0 a1_1 a1_2 l1_3) else (minstrelref07_put.j0 k l0 a2 (decide (a1_0 > 2)) a1_0 a1_1 a1_2 l1_3)
end
theorem minstrelref07_put.mono_l : ∀ k, (∀ y0 y1 y2 y3 y4 y5, LeO (minstrelref07_put.f k y0 y1 y2 y3 y4 y5) (minstrelref07_put.f (k + 1) y0 y1 y2 y3 y4 y5)) ∧ (∀ y0 y1 y2 y3 y4 y5 y6, LeO (minstrelref07_put.j0 k y0 y1 y2 y3 y4 y5 y6) (minstrelref07_put.j0 (k + 1) y0 y1 y2 y3 y4 y5 y6)) ∧ (∀ y0 y1 y2 y3 y4 y5 y6, LeO (minstrelref07_put.j1 k y0 y1 y2 y3 y4 y5 y6) (minstrelref07_put.j1 (k + 1) y0 y1 y2 y3 y4 y5 y6)) ∧ (∀ y0 y1 y2 y3 y4 y5, LeO (minstrelref07_put.j2 k y0 y1 y2 y3 y4 y5) (minstrelref07_put.j2 (k + 1) y0 y1 y2 y3 y4 y5)) ∧ (∀ y0 y1 y2 y3 y4 y5, LeO (minstrelref07_put.j3 k y0 y1 y2 y3 y4 y5) (minstrelref07_put.j3 (k + 1) y0 y1 y2 y3 y4 y5)) ∧ (∀ y0 y1 y2 y3 y4 y5, LeO (minstrelref07_put.j4 k y0 y1 y2 y3 y4 y5) (minstrelref07_put.j4 (k + 1) y0 y1 y2 y3 y4 y5)) ∧ (∀ y0 y1 y2 y3 y4 y5 y6, LeO (minstrelref07_put.l0 k y0 y1 y2 y3 y4 y5 y6) (minstrelref07_put.l0 (k + 1) y0 y1 y2 y3 y4 y5 y6)) ∧ (∀ y0 y1 y2 y3 y4 y5 y6 y7, LeO (minstrelref07_put.j6 k y0 y1 y2 y3 y4 y5 y6 y7) (minstrelref07_put.j6 (k + 1) y0 y1 y2 y3 y4 y5 y6 y7))
 | 0 => ⟨fun _ _ _ _ _ _ r h => by simp [minstrelref07_put.f] at h, fun _ _ _ _ _ _ _ r h => by simp [minstrelref07_put.j0] at h, fun _ _ _ _ _ _ _ r h => by simp [minstrelref07_put.j1] at h, fun _ _ _ _ _ _ r h => by simp [minstrelref07_put.j2] at h, fun _ _ _ _ _ _ r h => by simp [minstrelref07_put.j3] at h, fun _ _ _ _ _ _ r h => by simp [minstrelref07_put.j4] at h, fun _ _ _ _ _ _ _ r h => by simp [minstrelref07_put.l0] at h, fun _ _ _ _ _ _ _ _ r h => by simp [minstrelref07_put.j6] at h⟩
 | k + 1 => by
  obtain ⟨ih0, ih1, ih2, ih3, ih4, ih5, ih6, ih7⟩ := minstrelref07_put.mono_l k
  refine ⟨?_, ?_, ?_, ?_, ?_, ?_, ?_, ?_⟩
  ·intro y0 y1 y2 y3 y4 y5
   unfold minstrelref07_put.f
   repeat' first
   | (with_reducible exact ih0 _ _ _ _ _ _)
   | (with_reducible exact ih1 _ _ _ _ _ _ _)
   | (with_reducible exact ih2 _ _ _ _ _ _ _)
   | (with_reducible exact ih3 _ _ _ _ _ _)
   | (with_reducible exact ih4 _ _ _ _ _ _)
   | (with_reducible exact ih5 _ _ _ _ _ _)
   | (with_reducible exact ih6 _ _ _ _ _ _ _)
   | (with_reducible exact ih7 _ _ _ _ _ _ _ _)
   | (with_reducible exact minstrelref07_bytes.mono _ _ _)
   | (with_reducible exact LeO.refl _)
   | (with_reducible exact LeO.none _)
   | (with_reducible refine LeO.ite ?_ ?_)
   | (with_reducible refine LeO.bind ?_ (fun _ => ?_))
   | exact ih0 _ _ _ _ _ _
   | exact ih1 _ _ _ _ _ _ _
   | exact ih2 _ _ _ _ _ _ _
   | exact ih3 _ _ _ _ _ _
   | exact ih4 _ _ _ _ _ _
   | exact ih5 _ _ _ _ _ _
   | exact ih6 _ _ _ _ _ _ _
   | exact ih7 _ _ _ _ _ _ _ _
   | exact minstrelref07_bytes.mono _ _ _
   | exact LeO.none _
   | refine LeO.ite ?_ ?_
   | refine LeO.bind ?_ (fun _ => ?_)
  ·intro y0 y1 y2 y3 y4 y5 y6
   unfold minstrelref07_put.j0
   repeat' first
   | (with_reducible exact ih0 _ _ _ _ _ _)
   | (with_reducible exact ih1 _ _ _ _ _ _ _)
   | (with_reducible exact ih2 _ _ _ _ _ _ _)
   | (with_reducible exact ih3 _ _ _ _ _ _)
   | (with_reducible exact ih4 _ _ _ _ _ _)
   | (with_reducible exact ih5 _ _ _ _ _ _)
   | (with_reducible exact ih6 _ _ _ _ _ _ _)
   | (with_reducible exact ih7 _ _ _ _ _ _ _ _)
   | (with_reducible exact minstrelref07_bytes.mono _ _ _)
   | (with_reducible exact LeO.refl _)
   | (with_reducible exact LeO.none _)
   | (with_reducible refine LeO.ite ?_ ?_)
   | (with_reducible refine LeO.bind ?_ (fun _ => ?_))
   | exact ih0 _ _ _ _ _ _
   | exact ih1 _ _ _ _ _ _ _
   | exact ih2 _ _ _ _ _ _ _
   | exact ih3 _ _ _ _ _ _
   | exact ih4 _ _ _ _ _ _
   | exact ih5 _ _ _ _ _ _
   | exact ih6 _ _ _ _ _ _ _
   | exact ih7 _ _ _ _ _ _ _ _
   | exact minstrelref07_bytes.mono _ _ _
   | exact LeO.none _
   | refine LeO.ite ?_ ?_
   | refine LeO.bind ?_ (fun _ => ?_)
  ·intro y0 y1 y2 y3 y4 y5 y6
   unfold minstrelref07_put.j1
   repeat' first
   | (with_reducible exact ih0 _ _ _ _ _ _)
   | (with_reducible exact ih1 _ _ _ _ _ _ _)
   | (with_reducible exact ih2 _ _ _ _ _ _ _)
   | (with_reducible exact ih3 _ _ _ _ _ _)
   | (with_reducible exact ih4 _ _ _ _ _ _)
   | (with_reducible exact ih5 _ _ _ _ _ _)
   | (with_reducible exact ih6 _ _ _ _ _ _ _)
   | (with_reducible exact ih7 _ _ _ _ _ _ _ _)
   | (with_reducible exact minstrelref07_bytes.mono _ _ _)
   | (with_reducible exact LeO.refl _)
   | (with_reducible exact LeO.none _)
   | (with_reducible refine LeO.ite ?_ ?_)
   | (with_reducible refine LeO.bind ?_ (fun _ => ?_))
   | exact ih0 _ _ _ _ _ _
   | exact ih1 _ _ _ _ _ _ _
   | exact ih2 _ _ _ _ _ _ _
   | exact ih3 _ _ _ _ _ _
   | exact ih4 _ _ _ _ _ _
   | exact ih5 _ _ _ _ _ _
   | exact ih6 _ _ _ _ _ _ _
   | exact ih7 _ _ _ _ _ _ _ _
   | exact minstrelref07_bytes.mono _ _ _
   | exact LeO.none _
   | refine LeO.ite ?_ ?_
   | refine LeO.bind ?_ (fun _ => ?_)
  ·intro y0 y1 y2 y3 y4 y5
   unfold minstrelref07_put.j2
   repeat' first
   | (with_reducible exact ih0 _ _ _ _ _ _)
   | (with_reducible exact ih1 _ _ _ _ _ _ _)
   | (with_reducible exact ih2 _ _ _ _ _ _ _)
   | (with_reducible exact ih3 _ _ _ _ _ _)
   | (with_reducible exact ih4 _ _ _ _ _ _)
   | (with_reducible exact ih5 _ _ _ _ _ _)
   | (with_reducible exact ih6 _ _ _ _ _ _ _)
   | (with_reducible exact ih7 _ _ _ _ _ _ _ _)
   | (with_reducible exact minstrelref07_bytes.mono _ _ _)
   | (with_reducible exact LeO.refl _)
   | (with_reducible exact LeO.none _)
   | (with_reducible refine LeO.ite ?_ ?_)
   | (with_reducible refine LeO.bind ?_ (fun _ => ?_))
   | exact ih0 _ _ _ _ _ _
   | exact ih1 _ _ _ _ _ _ _
   | exact ih2 _ _ _ _ _ _ _
   | exact ih3 _ _ _ _ _ _
   | exact ih4 _ _ _ _ _ _
   | exact ih5 _ _ _ _ _ _
   | exact ih6 _ _ _ _ _ _ _
   | exact ih7 _ _ _ _ _ _ _ _
   | exact minstrelref07_bytes.mono _ _ _
   | exact LeO.none _
   | refine LeO.ite ?_ ?_
   | refine LeO.bind ?_ (fun _ => ?_)
  ·intro y0 y1 y2 y3 y4 y5
   unfold minstrelref07_put.j3
   repeat' first
   | (with_reducible exact ih0 _ _ _ _ _ _)
   | (with_reducible exact ih1 _ _ _ _ _ _ _)
   | (with_reducible exact ih2 _ _ _ _ _ _ _)
   | (with_reducible exact ih3 _ _ _ _ _ _)
   | (with_reducible exact ih4 _ _ _ _ _ _)
   | (with_reducible exact ih5 _ _ _ _ _ _)
   | (with_reducible exact ih6 _ _ _ _ _ _ _)
   | (with_reducible exact ih7 _ _ _ _ _ _ _ _)
   | (with_reducible exact minstrelref07_bytes.mono _ _ _)
   | (with_reducible exact LeO.refl _)
   | (with_reducible exact LeO.none _)
   | (with_reducible refine LeO.ite ?_ ?_)
   | (with_reducible refine LeO.bind ?_ (fun _ => ?_))
   | exact ih0 _ _ _ _ _ _
   | exact ih1 _ _ _ _ _ _ _
   | exact ih2 _ _ _ _ _ _ _
   | exact ih3 _ _ _ _ _ _
   | exact ih4 _ _ _ _ _ _
   | exact ih5 _ _ _ _ _ _
   | exact ih6 _ _ _ _ _ _ _
   | exact ih7 _ _ _ _ _ _ _ _
   | exact minstrelref07_bytes.mono _ _ _
   | exact LeO.none _
   | refine LeO.ite ?_ ?_
   | refine LeO.bind ?_ (fun _ => ?_)
  ·intro y0 y1 y2 y3 y4 y5
   unfold minstrelref07_put.j4
   repeat' first
   | (with_reducible exact ih0 _ _ _ _ _ _)
   | (with_reducible exact ih1 _ _ _ _ _ _ _)
   | (with_reducible exact ih2 _ _ _ _ _ _ _)
   | (with_reducible exact ih3 _ _ _ _ _ _)
   | (with_reducible exact ih4 _ _ _ _ _ _)
   | (with_reducible exact ih5 _ _ _ _ _ _)
   | (with_reducible exact ih6 _ _ _ _ _ _ _)
   | (with_reducible exact ih7 _ _ _ _ _ _ _ _)
   | (with_reducible exact minstrelref07_bytes.mono _ _ _)
   | (with_reducible exact LeO.refl _)
   | (with_reducible exact LeO.none _)
   | (with_reducible refine LeO.ite ?_ ?_)
   | (with_reducible refine LeO.bind ?_ (fun _ => ?_))
   | exact ih0 _ _ _ _ _ _
   | exact ih1 _ _ _ _ _ _ _
   | exact ih2 _ _ _ _ _ _ _
   | exact ih3 _ _ _ _ _ _
   | exact ih4 _ _ _ _ _ _
   | exact ih5 _ _ _ _ _ _
   | exact ih6 _ _ _ _ _ _ _
   | exact ih7 _ _ _ _ _ _ _ _
   | exact minstrelref07_bytes.mono _ _ _
   | exact LeO.none _
   | refine LeO.ite ?_ ?_
   | refine LeO.bind ?_ (fun _ => ?_)
  ·intro y0 y1 y2 y3 y4 y5 y6
   unfold minstrelref07_put.l0
   repeat' first
   | (with_reducible exact ih0 _ _ _ _ _ _)
   | (with_reducible exact ih1 _ _ _ _ _ _ _)
   | (with_reducible exact ih2 _ _ _ _ _ _ _)
   | (with_reducible exact ih3 _ _ _ _ _ _)
   | (with_reducible exact ih4 _ _ _ _ _ _)
   | (with_reducible exact ih5 _ _ _ _ _ _)
   | (with_reducible exact ih6 _ _ _ _ _ _ _)
   | (with_reducible exact ih7 _ _ _ _ _ _ _ _)
   | (with_reducible exact minstrelref07_bytes.mono _ _ _)
   | (with_reducible exact LeO.refl _)
   | (with_reducible exact LeO.none _)
   | (with_reducible refine LeO.ite ?_ ?_)
   | (with_reducible refine LeO.bind ?_ (fun _ => ?_))
   | exact ih0 _ _ _ _ _ _
   | exact ih1 _ _ _ _ _ _ _
   | exact ih2 _ _ _ _ _ _ _
   | exact ih3 _ _ _ _ _ _
   | exact ih4 _ _ _ _ _ _
   | exact ih5 _ _ _ _ _ _
   | exact ih6 _ _ _ _ _ _ _
   | exact ih7 _ _ _ _ _ _ _ _
   | exact minstrelref07_bytes.mono _ _ _
   | exact LeO.none _
   | refine LeO.ite ?_ ?_
   | refine LeO.bind ?_ (fun _ => ?_)
  ·intro y0 y1 y2 y3 y4 y5 y6 y7
   unfold minstrelref07_put.j6
   repeat' first
   | (with_reducible exact ih0 _ _ _ _ _ _)
   | (with_reducible exact ih1 _ _ _ _ _ _ _)
   | (with_reducible exact ih2 _ _ _ _ _ _ _)
   | (with_reducible exact ih3 _ _ _ _ _ _)
   | (with_reducible exact ih4 _ _ _ _ _ _)
   | (with_reducible exact ih5 _ _ _ _ _ _)
   | (with_reducible exact ih6 _ _ _ _ _ _ _)
   | (with_reducible exact ih7 _ _ _ _ _ _ _ _)
   | (with_reducible exact minstrelref07_bytes.mono _ _ _)
   | (with_reducible exact LeO.refl _)
   | (with_reducible exact LeO.none _)
   | (with_reducible refine LeO.ite ?_ ?_)
   | (with_reducible refine LeO.bind ?_ (fun _ => ?_))
   | exact ih0 _ _ _ _ _ _
   | exact ih1 _ _ _ _ _ _ _
   | exact ih2 _ _ _ _ _ _ _
   | exact ih3 _ _ _ _ _ _
   | exact ih4 _ _ _ _ _ _
   | exact ih5 _ _ _ _ _ _
   | exact ih6 _ _ _ _ _ _ _
   | exact ih7 _ _ _ _ _ _ _ _
   | exact minstrelref07_bytes.mono _ _ _
   | exact LeO.none _
   | refine LeO.ite ?_ ?_
   | refine LeO.bind ?_ (fun _ => ?_)
theorem minstrelref07_put.mono : ∀ a0 a1 a2 a3 a4 a5 k, LeO (minstrelref07_put.f k a0 a1 a2 a3 a4 a5) (minstrelref07_put.f (k + 1) a0 a1 a2 a3 a4 a5) := by
 intro a0 a1 a2 a3 a4 a5 k
 obtain ⟨ih0, ih1, ih2, ih3, ih4, ih5, ih6, ih7⟩ := minstrelref07_put.mono_l k
 exact ih0 a0 a1 a2 a3 a4 a5
set_option maxHeartbeats 8000000 in
set_option maxRecDepth 100000 in
theorem minstrelref07_put.calls (k : Nat) : ∀ (P0_ : Nat → Prop) (u9000_ : Value) (l0 : List Int) (a1_0 : Int) (a1_1 : Int) (a1_2 : ByteArray) (A1_3 : Option Addr) (c1_3 : Nat) (l1_3 : List (S26)) (a2 : Int) (r1 : List Int) (r2 : Int) (w0 w : World) (hB : Below w0.heap.size w0 w) (ho0 : Kd.R (Kd.int .u8) 5 w w0.heap.size P0_ u9000_ l0) (hr1_3 : Kd.C k26 w0 A1_3 l1_3.length l1_3) (hc1_3 : l1_3.length ≤ c1_3) (h : minstrelref07_put.f k l0 a1_0 a1_1 a1_2 l1_3 a2 = some (r1, r2)),
  Calls Tryd.prog 51 #[u9000_, .agg #[.int .i64 a1_0, .int .u64 a1_1, .string a1_2, .slice A1_3 l1_3.length c1_3], .int .i64 a2] w fun e w' => ∃ v0_ : Value, e = .returned (.tuple #[v0_, .int .i64 r2]) ∧ Kd.R (Kd.int .u8) 5 w' w0.heap.size (fun k_ => (P0_ k_ ∨ w.heap.size ≤ k_)) v0_ r1 ∧ Below w0.heap.size w0 w' ∧ Kept w w' (fun k_ => P0_ k_) := by
 induction k using Nat.strongRecOn with
 | _ k ih =>
 intro P0_ u9000_ l0 a1_0 a1_1 a1_2 A1_3 c1_3 l1_3 a2 r1 r2 w0 w hB ho0 hr1_3 hc1_3 h
 cases k with
 | zero => exact absurd h (by simp [minstrelref07_put.f])
 | succ k =>
 simp only [minstrelref07_put.f] at h
 have hu26 := Tryd.underlying26
 have HO0 := am (show Kd.R (Kd.int .u8) 5 w w0.heap.size (fun k_ => (P0_ k_ ∨ w.heap.size ≤ k_)) u9000_ l0 from Kd.R_mono ho0 (fun k_ hk => (.inl hk)))
 have HR1_3 := am hr1_3
 have HC1_3 := am hc1_3
 clear hr1_3 hc1_3
 have HK := am (Kept.refl w (fun k_ => P0_ k_))
 have HW0 := am hB.size
 have HB := am hB
 clear hB
 have H : (if a1_0 < 0 then (minstrelref07_put.j0 k l0 a2 true a1_0 a1_1 a1_2 l1_3) else (minstrelref07_put.j0 k l0 a2 (decide (a1_0 > 2)) a1_0 a1_1 a1_2 l1_3)) = some (r1, r2) := h
 clear h
 have HC4 := am H
 clear H
 go_enter Tryd.func51, Tryd.ntmps51
 go_upto_region 1 with (first | ((with_reducible refine gate_dst (N := 4) rfl ?_); (try (refine gate_guard (by rfl) ?_; dsimp only)); refine box_event ?hg (N := 4) ?hd (cs := #[.int .i64 a1_0, .int .u64 a1_1, .string a1_2, .slice A1_3 l1_3.length c1_3]) (t := 26) ?hr ?_; (case hd => rfl); (case hg => rfl); (case hr => first | (go_simp; done) | (go_simp; rfl)); intro gb271 hg w5 hbox hb; replace HO0 := am (Kd.R_below (pR HO0.out) hb); have BK271 := am (hbox); have GW271 := am ((by rw [hg]; exact (by first | exact HK.out.1 | exact (show Kept w _ (fun k_ => P0_ k_) from by repeat (first | (with_reducible first | exact HK.out | apply Kept.alloc | apply Kept.drewN | apply Kept.drew) | exact HK.out)).1) : w.heap.size ≤ gb271)); replace HK := am (Kept.below (S := (fun k_ => P0_ k_)) (by repeat (first | (with_reducible first | exact HK.out | apply Kept.alloc | apply Kept.drewN | apply Kept.drew) | exact HK.out)) hb); have GE271 := am ((by rw [hg]; exact (below_size pB) : w0.heap.size ≤ gb271)); replace HB := am (below_step pB hb); clear hb hbox hg))
 (try simp only [Act.put, List.setIfInBounds_toArray, List.set_cons_zero, List.set_cons_succ])
 go_cut [18] (fun v18 wc => ∃ (kq : Nat) (x18_3 : Bool), v18 = .bool x18_3 ∧ Aside0 (minstrelref07_put.j0 kq l0 a2 x18_3 a1_0 a1_1 a1_2 l1_3 = some (r1, r2)) ∧ Aside0 (kq ≤ k) ∧ Aside0 (Kd.R (Kd.int .u8) 5 wc w0.heap.size (fun k_ => (P0_ k_ ∨ w.heap.size ≤ k_)) u9000_ l0) ∧ Aside0 (wc.heap[gb271]? = some (.cells #[.int .i64 a1_0, .int .u64 a1_1, .string a1_2, (.slice A1_3 l1_3.length c1_3)] 26 (0, 0))) ∧ Aside0 (Kept w wc (fun k_ => P0_ k_)) ∧ Aside0 (Below w0.heap.size w0 wc))
 case first =>
  have H := HC4.out
  clear HC4
  by_cases c6 : a1_0 < 0
  ·rw [if_pos c6] at H
   have c6b0 : decide (a1_0 < 0) = true := decide_eq_true c6
   clear c6
   (first | rw [c6b0] | (simp only [i64_w, i32_w]; rw [c6b0]) | rw [c6b1] | (simp only [i64_w, i32_w]; rw [c6b1]) | skip)
   have H' := am H
   clear H
   have q7 := cf4 BK271.out
   go_wp2
   go_meet
   case rel => exact ⟨_, (true), (by first | rfl | (simp; done) | (simp [*]; done)), H', ⟨by first | omega | exact Nat.le_refl _⟩, ⟨by (with_reducible repeat (first | apply Kd.R_alloc | apply Kd.R_drewN | apply Kd.R_drew)); exact HO0.out⟩, ⟨by (with_reducible repeat (first | refine blk_drewN ?_ _ | refine blk_drew ?_ | refine blk_alloc ?_ _)); exact BK271.out⟩, ⟨by repeat (first | (with_reducible first | exact HK.out | apply Kept.alloc | apply Kept.drewN | apply Kept.drew | refine Kept.setCell ?_ (.inr GW271.out) _) | exact HK.out)⟩, ⟨pB⟩⟩
  ·rw [if_neg c6] at H
   have c6b0 : decide (a1_0 < 0) = false := decide_eq_false c6
   clear c6
   (first | rw [c6b0] | (simp only [i64_w, i32_w]; rw [c6b0]) | rw [c6b1] | (simp only [i64_w, i32_w]; rw [c6b1]) | skip)
   have H' := am H
   clear H
   have q8 := cf4 BK271.out
   go_wp2
   go_meet
   case rel => exact ⟨_, (decide (a1_0 > 2)), (by first | rfl | (simp; done) | (simp [*]; done)), H', ⟨by first | omega | exact Nat.le_refl _⟩, ⟨by (with_reducible repeat (first | apply Kd.R_alloc | apply Kd.R_drewN | apply Kd.R_drew)); exact HO0.out⟩, ⟨by (with_reducible repeat (first | refine blk_drewN ?_ _ | refine blk_drew ?_ | refine blk_alloc ?_ _)); exact BK271.out⟩, ⟨by repeat (first | (with_reducible first | exact HK.out | apply Kept.alloc | apply Kept.drewN | apply Kept.drew | refine Kept.setCell ?_ (.inr GW271.out) _) | exact HK.out)⟩, ⟨pB⟩⟩
 case rest =>
  clear HC4
  try clear c1
  try clear p2
  try clear c5
  try clear c6
  try clear c6b0
  try clear c6b1
  try clear q7 q8
  obtain ⟨kq, x18_3, rfl, HA, HJ3, HO_0, BK271, HK, HB⟩ := hcut
  cases kq with
  | zero => exact absurd HA.out (by simp [minstrelref07_put.j0])
  | succ kj3 =>
   have H := HA.out
   clear HA
   simp only [minstrelref07_put.j0] at H
   by_cases c9 : x18_3 = true
   ·subst c9
    rw [if_pos rfl] at H
    simp only [Option.some.injEq, Prod.mk.injEq] at H
    obtain ⟨rfl, rfl⟩ := H
    go_wp2
    go_ret2
    exact ⟨_, pE, pZ, pB, by repeat (first | (with_reducible first | exact HK.out | apply Kept.alloc | apply Kept.drewN | apply Kept.drew | refine Kept.setCell ?_ (.inr GW271.out) _) | exact HK.out)⟩
   ·replace c9 := Bool.eq_false_iff.mpr c9
    subst c9
    rw [if_neg (show ¬ (false = true) by decide)] at H
    have HC10 := am H
    clear H
    go_upto_region 3 with (fail)
    go_cut [25] (fun v25 wc => ∃ (kq : Nat) (x25_9 : Bool), v25 = .bool x25_9 ∧ Aside0 (minstrelref07_put.j1 kq l0 a2 x25_9 a1_0 a1_1 a1_2 l1_3 = some (r1, r2)) ∧ Aside0 (kq ≤ kj3) ∧ Aside0 (Kd.R (Kd.int .u8) 5 wc w0.heap.size (fun k_ => (P0_ k_ ∨ w.heap.size ≤ k_)) u9000_ l0) ∧ Aside0 (wc.heap[gb271]? = some (.cells #[.int .i64 a1_0, .int .u64 a1_1, .string a1_2, (.slice A1_3 l1_3.length c1_3)] 26 (0, 0))) ∧ Aside0 (Kept w wc (fun k_ => P0_ k_)) ∧ Aside0 (Below w0.heap.size w0 wc))
    case first =>
     have H := HC10.out
     clear HC10
     by_cases c11 : a1_0 = 2
     ·rw [if_pos c11] at H
      have c11b0 : (a1_0 == 2) = true := beq_iff_eq.mpr c11
      have c11b1 : (a1_0 != 2) = false := bne_eq_false_iff_eq.mpr c11
      clear c11
      (first | rw [c11b0] | (simp only [i64_w, i32_w]; rw [c11b0]) | rw [c11b1] | (simp only [i64_w, i32_w]; rw [c11b1]) | skip)
      have H' := am H
      clear H
      have q12 := cf4 BK271.out
      go_wp2
      go_meet
      case rel => exact ⟨_, (decide (a2 ≥ 64)), (by first | rfl | (simp; done) | (simp [*]; done)), H', ⟨by have := HJ3.out; first | omega | exact Nat.le_refl _⟩, ⟨by (with_reducible repeat (first | apply Kd.R_alloc | apply Kd.R_drewN | apply Kd.R_drew)); exact HO_0.out⟩, ⟨by (with_reducible repeat (first | refine blk_drewN ?_ _ | refine blk_drew ?_ | refine blk_alloc ?_ _)); exact BK271.out⟩, ⟨by repeat (first | (with_reducible first | exact HK.out | apply Kept.alloc | apply Kept.drewN | apply Kept.drew | refine Kept.setCell ?_ (.inr GW271.out) _) | exact HK.out)⟩, ⟨pB⟩⟩
     ·rw [if_neg c11] at H
      have c11b0 : (a1_0 == 2) = false := beq_eq_false_iff_ne.mpr c11
      have c11b1 : (a1_0 != 2) = true := bne_iff_ne.mpr c11
      (first | rw [c11b0] | (simp only [i64_w, i32_w]; rw [c11b0]) | rw [c11b1] | (simp only [i64_w, i32_w]; rw [c11b1]) | skip)
      have H' := am H
      clear H
      have q13 := cf4 BK271.out
      go_wp2
      go_meet
      case rel => exact ⟨_, (false), (by first | rfl | (simp; done) | (simp [*]; done)), H', ⟨by have := HJ3.out; first | omega | exact Nat.le_refl _⟩, ⟨by (with_reducible repeat (first | apply Kd.R_alloc | apply Kd.R_drewN | apply Kd.R_drew)); exact HO_0.out⟩, ⟨by (with_reducible repeat (first | refine blk_drewN ?_ _ | refine blk_drew ?_ | refine blk_alloc ?_ _)); exact BK271.out⟩, ⟨by repeat (first | (with_reducible first | exact HK.out | apply Kept.alloc | apply Kept.drewN | apply Kept.drew | refine Kept.setCell ?_ (.inr GW271.out) _) | exact HK.out)⟩, ⟨pB⟩⟩
    case rest =>
     clear HC10
     try clear c1
     try clear p2
     try clear c5
     try clear c6
     try clear c6b0
     try clear c6b1
     try clear c9
     try clear c11
     try clear c11b0
     try clear c11b1
     try clear q12 q13 q7 q8
     try clear p2
     obtain ⟨kq, x25_9, rfl, HA, HJ9, HO_0, BK271, HK, HB⟩ := hcut
     cases kq with
     | zero => exact absurd HA.out (by simp [minstrelref07_put.j1])
     | succ kj9 =>
      have H := HA.out
      clear HA
      simp only [minstrelref07_put.j1] at H
      by_cases c14 : x25_9 = true
      ·subst c14
       rw [if_pos rfl] at H
       simp only [Option.some.injEq, Prod.mk.injEq] at H
       obtain ⟨rfl, rfl⟩ := H
       go_wp2
       go_ret2
       exact ⟨_, pE, pZ, pB, by repeat (first | (with_reducible first | exact HK.out | apply Kept.alloc | apply Kept.drewN | apply Kept.drew | refine Kept.setCell ?_ (.inr GW271.out) _) | exact HK.out)⟩
      ·replace c14 := Bool.eq_false_iff.mpr c14
       subst c14
       rw [if_neg (show ¬ (false = true) by decide)] at H
       by_cases c15 : l0.length < 140737488355328
       ·rw [if_pos c15] at H
        have LMc15 := am c15
        clear c15
        obtain ⟨y272, hy272⟩ : ∃ y_ : List Int, y_ = (l0 ++ [(a1_0) % 256]) := ⟨_, rfl⟩
        replace H : (if a1_0 = 0 then ((minstrelref07_bytes.f kj9 a1_1 8).bind fun t275 => (if y272.length + t275.length < 140737488355328 then (minstrelref07_put.j2 kj9 (y272 ++ t275) a2 a1_0 a1_1 a1_2 l1_3) else (none))) else (minstrelref07_put.j2 kj9 y272 a2 a1_0 a1_1 a1_2 l1_3)) = some (r1, r2) := by first | (rw [hy272]; with_reducible exact H) | (have H2_ := (Option.bind_some _ _).symm.trans H; rw [hy272]; with_reducible exact H2_) | (have H2_ := (Option.bind_some _ _).symm.trans H; with_reducible exact H2_) | with_reducible exact H | (rw [hy272]; exact H) | exact H
        have Ny272 := am hy272
        clear hy272
        have HC16 := am H
        clear H
        have q17 := cf4 BK271.out
        go_upto_if 34 with (first | ((with_reducible refine gate_builtin (b := .append) (xs := #[.tmp 26, .tmp 30]) rfl ?_); (try (refine gate_guard (by rfl) ?_; dsimp only)); at_builtin; refine Kd.R_append (Kd.int .u8) (w0 := w0) w0.heap.size rfl (.tmp 26) (.tmp 30) 31 5 (.int .u8 0) 1 rfl Tryd.underlying31 info5 rfl (by decide) (by omega) u9000_ l0 ((a1_0) % 256) [.int .u8 ((a1_0) % 256)] (fun k_ => (P0_ k_ ∨ w.heap.size ≤ k_)) (fun _ => False) rfl rfl ?aP (fun _ hk => hk.elim) ?aF ?aO ?aB ?aS ?aL ?_; (case aP => exact rfl); (case aB => exact pB); (case aF => exact (fun k_ hk => (.inr (Nat.le_trans (by first | exact HK.out.1 | exact (show Kept w _ (fun k_ => P0_ k_) from by repeat (first | (with_reducible first | exact HK.out | apply Kept.alloc | apply Kept.drewN | apply Kept.drew | refine Kept.setCell ?_ (.inr GW271.out) _) | exact HK.out)).1) hk)))); (case aO => exact (pR HO_0.out)); (case aS => exact (below_size pB)); (case aL => have := LMc15.out; omega); intro v273 w18 ho hb hg hat; rw [← Ny272.out] at ho; replace BK271 := am (blk_grown (g := gb271) (o := .cells #[.int .i64 a1_0, .int .u64 a1_1, .string a1_2, .slice A1_3 l1_3.length c1_3] 26 (0, 0)) (pK BK271.out) hg (pX HO_0.out BK271.out)); replace HB := am (hb); replace HK := am (Kept.of_grown (S := (fun k_ => P0_ k_)) hg (by repeat (first | (with_reducible first | exact HK.out | apply Kept.alloc | apply Kept.drewN | apply Kept.drew | refine Kept.setCell ?_ (.inr GW271.out) _) | exact HK.out)) (fun k_ e_ => (HO_0.out.1 k_ e_))); have HO274 := am (ho); clear HO_0; clear ho hb hg hat; have q19 := cf4 BK271.out))
        (try simp only [Act.put, List.setIfInBounds_toArray, List.set_cons_zero, List.set_cons_succ])
        go_cut [0] (fun v0 wc => ∃ (kq : Nat) (x0_15 : List Int), Aside0 (minstrelref07_put.j2 kq x0_15 a2 a1_0 a1_1 a1_2 l1_3 = some (r1, r2)) ∧ Aside0 (kq ≤ kj9) ∧ Aside0 (Kd.R (Kd.int .u8) 5 wc w0.heap.size (fun k_ => (P0_ k_ ∨ w.heap.size ≤ k_)) v0 x0_15) ∧ Aside0 (wc.heap[gb271]? = some (.cells #[.int .i64 a1_0, .int .u64 a1_1, .string a1_2, (.slice A1_3 l1_3.length c1_3)] 26 (0, 0))) ∧ Aside0 (Kept w wc (fun k_ => P0_ k_)) ∧ Aside0 (Below w0.heap.size w0 wc))
        case first =>
         have H := HC16.out
         clear HC16
         by_cases c20 : a1_0 = 0
         ·rw [if_pos c20] at H
          have c20b0 : (a1_0 == 0) = true := beq_iff_eq.mpr c20
          have c20b1 : (a1_0 != 0) = false := bne_eq_false_iff_eq.mpr c20
          clear c20
          (first | rw [c20b0] | (simp only [i64_w, i32_w]; rw [c20b0]) | rw [c20b1] | (simp only [i64_w, i32_w]; rw [c20b1]) | skip)
          replace H := Option.bind_eq_some_iff.mp H
          obtain ⟨t275, A210, H⟩ := H
          try dsimp only at H
          have A21 := am A210
          clear A210
          by_cases c22 : y272.length + t275.length < 140737488355328
          ·rw [if_pos c22] at H
           have LMc22 := am c22
           clear c22
           obtain ⟨y278, hy278⟩ : ∃ y_ : List Int, y_ = (y272 ++ t275) := ⟨_, rfl⟩
           replace H : (minstrelref07_put.j2 kj9 y278 a2 a1_0 a1_1 a1_2 l1_3) = some (r1, r2) := by first | (rw [hy278]; with_reducible exact H) | (have H2_ := (Option.bind_some _ _).symm.trans H; rw [hy278]; with_reducible exact H2_) | (have H2_ := (Option.bind_some _ _).symm.trans H; with_reducible exact H2_) | with_reducible exact H | (rw [hy278]; exact H) | exact H
           have Ny278 := am hy278
           clear hy278
           have H' := am H
           clear H
           have q23 := cf4 BK271.out
           go_wp2_with (first | ((with_reducible refine gate_callee (f := 61) rfl ?_); refine goesL_ (some 38) rfl rfl Tryd.func61 (by kernel_rfl) rfl #[.int .u64 a1_1, .int .i64 8] rfl pM ?_; (with_reducible refine (minstrelref07_bytes.calls kj9 a1_1 8 t275 _ A21.out).mono ?_); rintro e w24 ⟨v276, rfl, ho0, hb⟩; refine ⟨_, rfl, ?_⟩; have HO277 := am (Kd.R_lower (Kd.R_new' (Kd.R_newM (M := fun k_ => (P0_ k_ ∨ w.heap.size ≤ k_)) ho0 (by first | exact HK.out.1 | exact (show Kept w _ (fun k_ => P0_ k_) from by repeat (first | (with_reducible first | exact HK.out | apply Kept.alloc | apply Kept.drewN | apply Kept.drew | refine Kept.setCell ?_ (.inr GW271.out) _) | exact HK.out)).1) (fun k_ h_ => .inr h_)) (Kd.R_lt (pR HO274.out))) (below_size pB)); replace HO274 := am (Kd.R_elder' (pR HO274.out) (Kd.R_base ho0) hb); replace BK271 := am (pkb BK271.out hb); replace HK := am (Kept.below (S := (fun k_ => P0_ k_)) (by repeat (first | (with_reducible first | exact HK.out | apply Kept.alloc | apply Kept.drewN | apply Kept.drew | refine Kept.setCell ?_ (.inr GW271.out) _) | exact HK.out)) hb); replace HB := am (below_step pB hb); (try clear hb); (try clear hb2); (try clear hk); (try clear hi); (try clear ho0); obtain ⟨Ao26, co26, eo26⟩ := Kd.R_slice HO277.out; subst eo26) | ((with_reducible refine gate_builtin (b := .append) (xs := #[.tmp 35, .tmp 38]) rfl ?_); (try (refine gate_guard (by rfl) ?_; dsimp only)); at_builtin; refine Kd.R_append_rows (Kd.int .u8) (w0 := w0) w0.heap.size rfl (.tmp 35) (.tmp 38) 31 5 (.int .u8 0) 1 rfl Tryd.underlying31 info5 rfl (by decide) (by omega) v273 y272 t275 _ _ _ (fun k_ => (P0_ k_ ∨ w.heap.size ≤ k_) ∧ some k_ ≠ (.slice Ao26 t275.length co26 : Value).ownBlock) (fun _ => False) rfl rfl ?aO ?aR (fun _ _ h => h) (fun _ h => h.elim) ?aF ?aB ?aS ?aL ?_; (case aR => repeat (first | exact (Kd.R_reads' HO277.out).2.2 | (with_reducible refine Kd.C_alloc ?_ _) | (with_reducible refine Kd.C_drewN ?_ _) | (with_reducible refine Kd.C_drew ?_))); (case aB => exact pB); (case aF => exact (fun k_ hk => ⟨(.inr (Nat.le_trans (by first | exact HK.out.1 | exact (show Kept w _ (fun k_ => P0_ k_) from by repeat (first | (with_reducible first | exact HK.out | apply Kept.alloc | apply Kept.drewN | apply Kept.drew | refine Kept.setCell ?_ (.inr GW271.out) _) | exact HK.out)).1) hk)), Kd.fresh' (Kd.R_lt (pR HO277.out)) k_ hk⟩)); (case aO => exact (pR HO274.out)); (case aS => exact (below_size pB)); (case aL => have := LMc22.out; omega); intro v279 w25 ho hb hg hat; rw [← Ny278.out] at ho; replace BK271 := am (blk_grown (g := gb271) (o := .cells #[.int .i64 a1_0, .int .u64 a1_1, .string a1_2, .slice A1_3 l1_3.length c1_3] 26 (0, 0)) (pK BK271.out) hg (pX HO274.out BK271.out)); replace HO277 := am (Kd.R_after (ok := (fun k_ => (P0_ k_ ∨ w.heap.size ≤ k_))) (by (with_reducible repeat (first | apply Kd.R_alloc | apply Kd.R_drewN | apply Kd.R_drew)); exact Kd.R_mono HO277.out (fun _ hk => ⟨hk.1.1, hk.2⟩)) hg hat); replace HB := am (hb); replace HK := am (Kept.of_grown (S := (fun k_ => P0_ k_)) hg (by repeat (first | (with_reducible first | exact HK.out | apply Kept.alloc | apply Kept.drewN | apply Kept.drew | refine Kept.setCell ?_ (.inr GW271.out) _) | exact HK.out)) (fun k_ e_ => (HO274.out.1 k_ e_).1)); have HO280 := am (ho); clear HO274; clear ho hb hg hat))
           go_meet
           case rel => exact ⟨_, (y278), H', ⟨by have := HJ3.out; have := HJ9.out; first | omega | exact Nat.le_refl _⟩, ⟨by (with_reducible repeat (first | apply Kd.R_alloc | apply Kd.R_drewN | apply Kd.R_drew)); exact Kd.R_mono HO280.out (fun _ hk => hk.1)⟩, ⟨by (with_reducible repeat (first | refine blk_drewN ?_ _ | refine blk_drew ?_ | refine blk_alloc ?_ _)); exact BK271.out⟩, ⟨by repeat (first | (with_reducible first | exact HK.out | apply Kept.alloc | apply Kept.drewN | apply Kept.drew | refine Kept.setCell ?_ (.inr GW271.out) _) | exact HK.out)⟩, ⟨pB⟩⟩
          ·rw [if_neg c22] at H
           exact absurd H (by simp)
         ·rw [if_neg c20] at H
          have c20b0 : (a1_0 == 0) = false := beq_eq_false_iff_ne.mpr c20
          have c20b1 : (a1_0 != 0) = true := bne_iff_ne.mpr c20
          (first | rw [c20b0] | (simp only [i64_w, i32_w]; rw [c20b0]) | rw [c20b1] | (simp only [i64_w, i32_w]; rw [c20b1]) | skip)
          have H' := am H
          clear H
          go_wp2
          go_meet
          case rel => exact ⟨_, (y272), H', ⟨by have := HJ3.out; have := HJ9.out; first | omega | exact Nat.le_refl _⟩, ⟨by (with_reducible repeat (first | apply Kd.R_alloc | apply Kd.R_drewN | apply Kd.R_drew)); exact HO274.out⟩, ⟨by (with_reducible repeat (first | refine blk_drewN ?_ _ | refine blk_drew ?_ | refine blk_alloc ?_ _)); exact BK271.out⟩, ⟨by repeat (first | (with_reducible first | exact HK.out | apply Kept.alloc | apply Kept.drewN | apply Kept.drew | refine Kept.setCell ?_ (.inr GW271.out) _) | exact HK.out)⟩, ⟨pB⟩⟩
        case rest =>
         clear HC16
         try clear c1
         try clear c2
         try clear p2
         try clear c5
         try clear c6
         try clear c6b0
         try clear c6b1
         try clear c9
         try clear c11
         try clear c11b0
         try clear c11b1
         try clear c14
         try clear c15
         try clear c20
         try clear c20b0
         try clear c20b1
         try clear c22
         try clear q12 q13 q17 q19 q23 q7 q8
         try clear p2
         obtain ⟨kq, x0_15, HA, HJ15, HO_0, BK271, HK, HB⟩ := hcut
         cases kq with
         | zero => exact absurd HA.out (by simp [minstrelref07_put.j2])
         | succ kj15 =>
          have H := HA.out
          clear HA
          simp only [minstrelref07_put.j2] at H
          have HC27 := am H
          clear H
          have q28 := cf4 BK271.out
          go_upto_if 42 with (fail)
          go_cut [0] (fun v0 wc => ∃ (kq : Nat) (x0_26 : List Int), Aside0 (minstrelref07_put.j3 kq x0_26 a2 a1_0 a1_1 a1_2 l1_3 = some (r1, r2)) ∧ Aside0 (kq ≤ kj15) ∧ Aside0 (Kd.R (Kd.int .u8) 5 wc w0.heap.size (fun k_ => (P0_ k_ ∨ w.heap.size ≤ k_)) v0 x0_26) ∧ Aside0 (wc.heap[gb271]? = some (.cells #[.int .i64 a1_0, .int .u64 a1_1, .string a1_2, (.slice A1_3 l1_3.length c1_3)] 26 (0, 0))) ∧ Aside0 (Kept w wc (fun k_ => P0_ k_)) ∧ Aside0 (Below w0.heap.size w0 wc))
          case first =>
           have H := HC27.out
           clear HC27
           by_cases c29 : a1_0 = 1
           ·rw [if_pos c29] at H
            have c29b0 : (a1_0 == 1) = true := beq_iff_eq.mpr c29
            have c29b1 : (a1_0 != 1) = false := bne_eq_false_iff_eq.mpr c29
            clear c29
            (first | rw [c29b0] | (simp only [i64_w, i32_w]; rw [c29b0]) | rw [c29b1] | (simp only [i64_w, i32_w]; rw [c29b1]) | skip)
            replace H := Option.bind_eq_some_iff.mp H
            obtain ⟨t281, A300, H⟩ := H
            try dsimp only at H
            have A30 := am A300
            clear A300
            by_cases c31 : x0_15.length + t281.length < 140737488355328
            ·rw [if_pos c31] at H
             have LMc31 := am c31
             clear c31
             obtain ⟨y284, hy284⟩ : ∃ y_ : List Int, y_ = (x0_15 ++ t281) := ⟨_, rfl⟩
             replace H : (if (wrap64 ((y284.length : Int) + (a1_2.size : Int))) > 1048576 then (some (([] : List Int), 2)) else (if y284.length + a1_2.size < 140737488355328 then (minstrelref07_put.j3 kj15 (y284 ++ bytesOf a1_2) a2 a1_0 a1_1 a1_2 l1_3) else (none))) = some (r1, r2) := by first | (rw [hy284]; with_reducible exact H) | (have H2_ := (Option.bind_some _ _).symm.trans H; rw [hy284]; with_reducible exact H2_) | (have H2_ := (Option.bind_some _ _).symm.trans H; with_reducible exact H2_) | with_reducible exact H | (rw [hy284]; exact H) | exact H
             have Ny284 := am hy284
             clear hy284
             by_cases c32 : (wrap64 ((y284.length : Int) + (a1_2.size : Int))) > 1048576
             ·rw [if_pos c32] at H
              have c32b0 : decide (1048576 < (wrap64 ((y284.length : Int) + (a1_2.size : Int)))) = true := decide_eq_true c32
              clear c32
              simp only [Option.some.injEq, Prod.mk.injEq] at H
              obtain ⟨rfl, rfl⟩ := H
              have q33 := cf4 BK271.out
              go_wp2_with (first | ((with_reducible refine gate_callee (f := 61) rfl ?_); refine goesL_ (some 48) rfl rfl Tryd.func61 (by kernel_rfl) rfl #[.int .u64 (IntKind.u64.wrap ((a1_2.size : Int))), .int .i64 4] rfl pM ?_; (with_reducible refine (minstrelref07_bytes.calls kj15 (IntKind.u64.wrap ((a1_2.size : Int))) 4 t281 _ A30.out).mono ?_); rintro e w34 ⟨v282, rfl, ho0, hb⟩; refine ⟨_, rfl, ?_⟩; have HO283 := am (Kd.R_lower (Kd.R_new' (Kd.R_newM (M := fun k_ => (P0_ k_ ∨ w.heap.size ≤ k_)) ho0 (by first | exact HK.out.1 | exact (show Kept w _ (fun k_ => P0_ k_) from by repeat (first | (with_reducible first | exact HK.out | apply Kept.alloc | apply Kept.drewN | apply Kept.drew | refine Kept.setCell ?_ (.inr GW271.out) _) | exact HK.out)).1) (fun k_ h_ => .inr h_)) (Kd.R_lt (pR HO_0.out))) (below_size pB)); replace HO_0 := am (Kd.R_elder' (pR HO_0.out) (Kd.R_base ho0) hb); replace BK271 := am (pkb BK271.out hb); replace HK := am (Kept.below (S := (fun k_ => P0_ k_)) (by repeat (first | (with_reducible first | exact HK.out | apply Kept.alloc | apply Kept.drewN | apply Kept.drew | refine Kept.setCell ?_ (.inr GW271.out) _) | exact HK.out)) hb); replace HB := am (below_step pB hb); (try clear hb); (try clear hb2); (try clear hk); (try clear hi); (try clear ho0); obtain ⟨Ao36, co36, eo36⟩ := Kd.R_slice HO283.out; subst eo36) | ((with_reducible refine gate_builtin (b := .append) (xs := #[.tmp 43, .tmp 48]) rfl ?_); (try (refine gate_guard (by rfl) ?_; dsimp only)); at_builtin; refine Kd.R_append_rows (Kd.int .u8) (w0 := w0) w0.heap.size rfl (.tmp 43) (.tmp 48) 31 5 (.int .u8 0) 1 rfl Tryd.underlying31 info5 rfl (by decide) (by omega) u0 x0_15 t281 _ _ _ (fun k_ => (P0_ k_ ∨ w.heap.size ≤ k_) ∧ some k_ ≠ (.slice Ao36 t281.length co36 : Value).ownBlock) (fun _ => False) rfl rfl ?aO ?aR (fun _ _ h => h) (fun _ h => h.elim) ?aF ?aB ?aS ?aL ?_; (case aR => repeat (first | exact (Kd.R_reads' HO283.out).2.2 | (with_reducible refine Kd.C_alloc ?_ _) | (with_reducible refine Kd.C_drewN ?_ _) | (with_reducible refine Kd.C_drew ?_))); (case aB => exact pB); (case aF => exact (fun k_ hk => ⟨(.inr (Nat.le_trans (by first | exact HK.out.1 | exact (show Kept w _ (fun k_ => P0_ k_) from by repeat (first | (with_reducible first | exact HK.out | apply Kept.alloc | apply Kept.drewN | apply Kept.drew | refine Kept.setCell ?_ (.inr GW271.out) _) | exact HK.out)).1) hk)), Kd.fresh' (Kd.R_lt (pR HO283.out)) k_ hk⟩)); (case aO => exact (pR HO_0.out)); (case aS => exact (below_size pB)); (case aL => have := LMc31.out; omega); intro v285 w35 ho hb hg hat; rw [← Ny284.out] at ho; replace BK271 := am (blk_grown (g := gb271) (o := .cells #[.int .i64 a1_0, .int .u64 a1_1, .string a1_2, .slice A1_3 l1_3.length c1_3] 26 (0, 0)) (pK BK271.out) hg (pX HO_0.out BK271.out)); replace HO283 := am (Kd.R_after (ok := (fun k_ => (P0_ k_ ∨ w.heap.size ≤ k_))) (by (with_reducible repeat (first | apply Kd.R_alloc | apply Kd.R_drewN | apply Kd.R_drew)); exact Kd.R_mono HO283.out (fun _ hk => ⟨hk.1.1, hk.2⟩)) hg hat); replace HB := am (hb); replace HK := am (Kept.of_grown (S := (fun k_ => P0_ k_)) hg (by repeat (first | (with_reducible first | exact HK.out | apply Kept.alloc | apply Kept.drewN | apply Kept.drew | refine Kept.setCell ?_ (.inr GW271.out) _) | exact HK.out)) (fun k_ e_ => (HO_0.out.1 k_ e_).1)); have HO286 := am (ho); clear HO_0; clear ho hb hg hat; obtain ⟨Ao37, co37, eo37⟩ := Kd.R_slice HO286.out; subst eo37; have q38 := cf4 BK271.out))
              go_ret2
              exact ⟨_, pE, pZ, pB, by repeat (first | (with_reducible first | exact HK.out | apply Kept.alloc | apply Kept.drewN | apply Kept.drew | refine Kept.setCell ?_ (.inr GW271.out) _) | exact HK.out)⟩
             ·rw [if_neg c32] at H
              have c32b0 : decide (1048576 < (wrap64 ((y284.length : Int) + (a1_2.size : Int)))) = false := decide_eq_false c32
              clear c32
              by_cases c39 : y284.length + a1_2.size < 140737488355328
              ·rw [if_pos c39] at H
               have LMc39 := am c39
               clear c39
               obtain ⟨y287, hy287⟩ : ∃ y_ : List Int, y_ = (y284 ++ bytesOf a1_2) := ⟨_, rfl⟩
               replace H : (minstrelref07_put.j3 kj15 y287 a2 a1_0 a1_1 a1_2 l1_3) = some (r1, r2) := by first | (rw [hy287]; with_reducible exact H) | (have H2_ := (Option.bind_some _ _).symm.trans H; rw [hy287]; with_reducible exact H2_) | (have H2_ := (Option.bind_some _ _).symm.trans H; with_reducible exact H2_) | with_reducible exact H | (rw [hy287]; exact H) | exact H
               have Ny287 := am hy287
               clear hy287
               have H' := am H
               clear H
               have q40 := cf4 BK271.out
               go_wp2_with (first | ((with_reducible refine gate_callee (f := 61) rfl ?_); refine goesL_ (some 48) rfl rfl Tryd.func61 (by kernel_rfl) rfl #[.int .u64 (IntKind.u64.wrap ((a1_2.size : Int))), .int .i64 4] rfl pM ?_; (with_reducible refine (minstrelref07_bytes.calls kj15 (IntKind.u64.wrap ((a1_2.size : Int))) 4 t281 _ A30.out).mono ?_); rintro e w41 ⟨v282, rfl, ho0, hb⟩; refine ⟨_, rfl, ?_⟩; have HO283 := am (Kd.R_lower (Kd.R_new' (Kd.R_newM (M := fun k_ => (P0_ k_ ∨ w.heap.size ≤ k_)) ho0 (by first | exact HK.out.1 | exact (show Kept w _ (fun k_ => P0_ k_) from by repeat (first | (with_reducible first | exact HK.out | apply Kept.alloc | apply Kept.drewN | apply Kept.drew | refine Kept.setCell ?_ (.inr GW271.out) _) | exact HK.out)).1) (fun k_ h_ => .inr h_)) (Kd.R_lt (pR HO_0.out))) (below_size pB)); replace HO_0 := am (Kd.R_elder' (pR HO_0.out) (Kd.R_base ho0) hb); replace BK271 := am (pkb BK271.out hb); replace HK := am (Kept.below (S := (fun k_ => P0_ k_)) (by repeat (first | (with_reducible first | exact HK.out | apply Kept.alloc | apply Kept.drewN | apply Kept.drew | refine Kept.setCell ?_ (.inr GW271.out) _) | exact HK.out)) hb); replace HB := am (below_step pB hb); (try clear hb); (try clear hb2); (try clear hk); (try clear hi); (try clear ho0); obtain ⟨Ao43, co43, eo43⟩ := Kd.R_slice HO283.out; subst eo43) | ((with_reducible refine gate_builtin (b := .append) (xs := #[.tmp 43, .tmp 48]) rfl ?_); (try (refine gate_guard (by rfl) ?_; dsimp only)); at_builtin; refine Kd.R_append_rows (Kd.int .u8) (w0 := w0) w0.heap.size rfl (.tmp 43) (.tmp 48) 31 5 (.int .u8 0) 1 rfl Tryd.underlying31 info5 rfl (by decide) (by omega) u0 x0_15 t281 _ _ _ (fun k_ => (P0_ k_ ∨ w.heap.size ≤ k_) ∧ some k_ ≠ (.slice Ao43 t281.length co43 : Value).ownBlock) (fun _ => False) rfl rfl ?aO ?aR (fun _ _ h => h) (fun _ h => h.elim) ?aF ?aB ?aS ?aL ?_; (case aR => repeat (first | exact (Kd.R_reads' HO283.out).2.2 | (with_reducible refine Kd.C_alloc ?_ _) | (with_reducible refine Kd.C_drewN ?_ _) | (with_reducible refine Kd.C_drew ?_))); (case aB => exact pB); (case aF => exact (fun k_ hk => ⟨(.inr (Nat.le_trans (by first | exact HK.out.1 | exact (show Kept w _ (fun k_ => P0_ k_) from by repeat (first | (with_reducible first | exact HK.out | apply Kept.alloc | apply Kept.drewN | apply Kept.drew | refine Kept.setCell ?_ (.inr GW271.out) _) | exact HK.out)).1) hk)), Kd.fresh' (Kd.R_lt (pR HO283.out)) k_ hk⟩)); (case aO => exact (pR HO_0.out)); (case aS => exact (below_size pB)); (case aL => have := LMc31.out; omega); intro v285 w42 ho hb hg hat; rw [← Ny284.out] at ho; replace BK271 := am (blk_grown (g := gb271) (o := .cells #[.int .i64 a1_0, .int .u64 a1_1, .string a1_2, .slice A1_3 l1_3.length c1_3] 26 (0, 0)) (pK BK271.out) hg (pX HO_0.out BK271.out)); replace HO283 := am (Kd.R_after (ok := (fun k_ => (P0_ k_ ∨ w.heap.size ≤ k_))) (by (with_reducible repeat (first | apply Kd.R_alloc | apply Kd.R_drewN | apply Kd.R_drew)); exact Kd.R_mono HO283.out (fun _ hk => ⟨hk.1.1, hk.2⟩)) hg hat); replace HB := am (hb); replace HK := am (Kept.of_grown (S := (fun k_ => P0_ k_)) hg (by repeat (first | (with_reducible first | exact HK.out | apply Kept.alloc | apply Kept.drewN | apply Kept.drew | refine Kept.setCell ?_ (.inr GW271.out) _) | exact HK.out)) (fun k_ e_ => (HO_0.out.1 k_ e_).1)); have HO286 := am (ho); clear HO_0; clear ho hb hg hat; obtain ⟨Ao44, co44, eo44⟩ := Kd.R_slice HO286.out; subst eo44; have q45 := cf4 BK271.out) | (at_builtin; refine R_append_str (w0 := w0) w0.heap.size rfl (.tmp 57) _ 31 9 5 rfl Tryd.underlying31 Tryd.underlying9 info5 (.slice Ao44 y284.length co44) y284 a1_2 (fun k_ => (P0_ k_ ∨ w.heap.size ≤ k_) ∧ some k_ ≠ (.slice Ao43 t281.length co43 : Value).ownBlock) rfl rfl ?aF ?aO ?aB ?aS ?aL ?_; (case aB => exact pB); (case aF => exact (fun k_ hk => ⟨(.inr (Nat.le_trans (by first | exact HK.out.1 | exact (show Kept w _ (fun k_ => P0_ k_) from by repeat (first | (with_reducible first | exact HK.out | apply Kept.alloc | apply Kept.drewN | apply Kept.drew | refine Kept.setCell ?_ (.inr GW271.out) _) | exact HK.out)).1) hk)), Kd.fresh' (Kd.R_lt (pR HO283.out)) k_ hk⟩)); (case aO => exact (pR HO286.out)); (case aS => exact (below_size pB)); (case aL => have := LMc39.out; omega); intro v288 w46 ho hb hg hat; rw [← Ny287.out] at ho; change Kd.R (Kd.int .u8) 5 w46 w0.heap.size (fun k_ => (P0_ k_ ∨ w.heap.size ≤ k_) ∧ some k_ ≠ (.slice Ao43 t281.length co43 : Value).ownBlock) v288 y287 at ho; replace BK271 := am (blk_grown (g := gb271) (o := .cells #[.int .i64 a1_0, .int .u64 a1_1, .string a1_2, .slice A1_3 l1_3.length c1_3] 26 (0, 0)) (pK BK271.out) hg (pX HO286.out BK271.out)); replace HO283 := am (Kd.R_after (ok := (fun k_ => (P0_ k_ ∨ w.heap.size ≤ k_))) (pR HO283.out) hg hat); replace HB := am (hb); replace HK := am (Kept.of_grown (S := (fun k_ => P0_ k_)) hg (by repeat (first | (with_reducible first | exact HK.out | apply Kept.alloc | apply Kept.drewN | apply Kept.drew | refine Kept.setCell ?_ (.inr GW271.out) _) | exact HK.out)) (fun k_ e_ => (HO286.out.1 k_ e_).1)); have HO289 := am (ho); clear HO286; clear ho hb hg hat))
               go_meet
               case rel => exact ⟨_, (y287), H', ⟨by have := HJ3.out; have := HJ9.out; have := HJ15.out; first | omega | exact Nat.le_refl _⟩, ⟨by (with_reducible repeat (first | apply Kd.R_alloc | apply Kd.R_drewN | apply Kd.R_drew)); exact Kd.R_mono HO289.out (fun _ hk => hk.1)⟩, ⟨by (with_reducible repeat (first | refine blk_drewN ?_ _ | refine blk_drew ?_ | refine blk_alloc ?_ _)); exact BK271.out⟩, ⟨by repeat (first | (with_reducible first | exact HK.out | apply Kept.alloc | apply Kept.drewN | apply Kept.drew | refine Kept.setCell ?_ (.inr GW271.out) _) | exact HK.out)⟩, ⟨pB⟩⟩
              ·rw [if_neg c39] at H
               exact absurd H (by simp)
            ·rw [if_neg c31] at H
             exact absurd H (by simp)
           ·rw [if_neg c29] at H
            have c29b0 : (a1_0 == 1) = false := beq_eq_false_iff_ne.mpr c29
            have c29b1 : (a1_0 != 1) = true := bne_iff_ne.mpr c29
            (first | rw [c29b0] | (simp only [i64_w, i32_w]; rw [c29b0]) | rw [c29b1] | (simp only [i64_w, i32_w]; rw [c29b1]) | skip)
            have H' := am H
            clear H
            go_wp2
            go_meet
            case rel => exact ⟨_, (x0_15), H', ⟨by have := HJ3.out; have := HJ9.out; have := HJ15.out; first | omega | exact Nat.le_refl _⟩, ⟨by (with_reducible repeat (first | apply Kd.R_alloc | apply Kd.R_drewN | apply Kd.R_drew)); exact HO_0.out⟩, ⟨by (with_reducible repeat (first | refine blk_drewN ?_ _ | refine blk_drew ?_ | refine blk_alloc ?_ _)); exact BK271.out⟩, ⟨by repeat (first | (with_reducible first | exact HK.out | apply Kept.alloc | apply Kept.drewN | apply Kept.drew | refine Kept.setCell ?_ (.inr GW271.out) _) | exact HK.out)⟩, ⟨pB⟩⟩
          case rest =>
           clear HC27
           try clear c1
           try clear c2
           try clear p2
           try clear c3
           try clear c5
           try clear c6
           try clear c6b0
           try clear c6b1
           try clear p6
           try clear c9
           try clear c11
           try clear c11b0
           try clear c11b1
           try clear c14
           try clear c15
           try clear c20
           try clear c20b0
           try clear c20b1
           try clear c22
           try clear c29
           try clear c29b0
           try clear c29b1
           try clear c31
           try clear c32
           try clear c32b0
           try clear c39
           try clear q12 q13 q17 q19 q23 q28 q33 q38 q40 q45 q7 q8
           try clear p2
           obtain ⟨kq, x0_26, HA, HJ26, HO_0, BK271, HK, HB⟩ := hcut
           cases kq with
           | zero => exact absurd HA.out (by simp [minstrelref07_put.j3])
           | succ kj26 =>
            have H := HA.out
            clear HA
            simp only [minstrelref07_put.j3] at H
            have HC47 := am H
            clear H
            have q48 := cf4 BK271.out
            go_upto_if 63 with (fail)
            go_cut [0] (fun v0 wc => ∃ (kq : Nat) (x0_46 : List Int), Aside0 (minstrelref07_put.j4 kq x0_46 a2 a1_0 a1_1 a1_2 l1_3 = some (r1, r2)) ∧ Aside0 (kq ≤ kj26) ∧ Aside0 (Kd.R (Kd.int .u8) 5 wc w0.heap.size (fun k_ => (P0_ k_ ∨ w.heap.size ≤ k_)) v0 x0_46) ∧ Aside0 (wc.heap[gb271]? = some (.cells #[.int .i64 a1_0, .int .u64 a1_1, .string a1_2, (.slice A1_3 l1_3.length c1_3)] 26 (0, 0))) ∧ Aside0 (Kept w wc (fun k_ => P0_ k_)) ∧ Aside0 (Below w0.heap.size w0 wc))
            case first =>
             have H := HC47.out
             clear HC47
             by_cases c49 : a1_0 = 2
             ·rw [if_pos c49] at H
              have c49b0 : (a1_0 == 2) = true := beq_iff_eq.mpr c49
              have c49b1 : (a1_0 != 2) = false := bne_eq_false_iff_eq.mpr c49
              clear c49
              (first | rw [c49b0] | (simp only [i64_w, i32_w]; rw [c49b0]) | rw [c49b1] | (simp only [i64_w, i32_w]; rw [c49b1]) | skip)
              replace H := Option.bind_eq_some_iff.mp H
              obtain ⟨t290, A500, H⟩ := H
              try dsimp only at H
              have A50 := am A500
              clear A500
              by_cases c51 : x0_26.length + t290.length < 140737488355328
              ·rw [if_pos c51] at H
               have LMc51 := am c51
               clear c51
               obtain ⟨y293, hy293⟩ : ∃ y_ : List Int, y_ = (x0_26 ++ t290) := ⟨_, rfl⟩
               replace H : (if (l1_3.length : Int) > 1048576 then (some (([] : List Int), 2)) else (minstrelref07_put.j4 kj26 y293 a2 a1_0 a1_1 a1_2 l1_3)) = some (r1, r2) := by first | (rw [hy293]; with_reducible exact H) | (have H2_ := (Option.bind_some _ _).symm.trans H; rw [hy293]; with_reducible exact H2_) | (have H2_ := (Option.bind_some _ _).symm.trans H; with_reducible exact H2_) | with_reducible exact H | (rw [hy293]; exact H) | exact H
               have Ny293 := am hy293
               clear hy293
               by_cases c52 : (l1_3.length : Int) > 1048576
               ·rw [if_pos c52] at H
                have c52b0 : decide (1048576 < (l1_3.length : Int)) = true := decide_eq_true c52
                have c52b1 : decide (1048576 < l1_3.length) = true := decide_eq_true (by omega)
                clear c52
                simp only [Option.some.injEq, Prod.mk.injEq] at H
                obtain ⟨rfl, rfl⟩ := H
                have q53 := cf4 BK271.out
                go_wp2_with (first | ((with_reducible refine gate_callee (f := 61) rfl ?_); refine goesL_ (some 69) rfl rfl Tryd.func61 (by kernel_rfl) rfl #[.int .u64 (IntKind.u64.wrap ((l1_3.length : Int))), .int .i64 4] rfl pM ?_; (with_reducible refine (minstrelref07_bytes.calls kj26 (IntKind.u64.wrap ((l1_3.length : Int))) 4 t290 _ A50.out).mono ?_); rintro e w54 ⟨v291, rfl, ho0, hb⟩; refine ⟨_, rfl, ?_⟩; have HO292 := am (Kd.R_lower (Kd.R_new' (Kd.R_newM (M := fun k_ => (P0_ k_ ∨ w.heap.size ≤ k_)) ho0 (by first | exact HK.out.1 | exact (show Kept w _ (fun k_ => P0_ k_) from by repeat (first | (with_reducible first | exact HK.out | apply Kept.alloc | apply Kept.drewN | apply Kept.drew | refine Kept.setCell ?_ (.inr GW271.out) _) | exact HK.out)).1) (fun k_ h_ => .inr h_)) (Kd.R_lt (pR HO_0.out))) (below_size pB)); replace HO_0 := am (Kd.R_elder' (pR HO_0.out) (Kd.R_base ho0) hb); replace BK271 := am (pkb BK271.out hb); replace HK := am (Kept.below (S := (fun k_ => P0_ k_)) (by repeat (first | (with_reducible first | exact HK.out | apply Kept.alloc | apply Kept.drewN | apply Kept.drew | refine Kept.setCell ?_ (.inr GW271.out) _) | exact HK.out)) hb); replace HB := am (below_step pB hb); (try clear hb); (try clear hb2); (try clear hk); (try clear hi); (try clear ho0); obtain ⟨Ao56, co56, eo56⟩ := Kd.R_slice HO292.out; subst eo56) | ((with_reducible refine gate_builtin (b := .append) (xs := #[.tmp 64, .tmp 69]) rfl ?_); (try (refine gate_guard (by rfl) ?_; dsimp only)); at_builtin; refine Kd.R_append_rows (Kd.int .u8) (w0 := w0) w0.heap.size rfl (.tmp 64) (.tmp 69) 31 5 (.int .u8 0) 1 rfl Tryd.underlying31 info5 rfl (by decide) (by omega) u0 x0_26 t290 _ _ _ (fun k_ => (P0_ k_ ∨ w.heap.size ≤ k_) ∧ some k_ ≠ (.slice Ao56 t290.length co56 : Value).ownBlock) (fun _ => False) rfl rfl ?aO ?aR (fun _ _ h => h) (fun _ h => h.elim) ?aF ?aB ?aS ?aL ?_; (case aR => repeat (first | exact (Kd.R_reads' HO292.out).2.2 | (with_reducible refine Kd.C_alloc ?_ _) | (with_reducible refine Kd.C_drewN ?_ _) | (with_reducible refine Kd.C_drew ?_))); (case aB => exact pB); (case aF => exact (fun k_ hk => ⟨(.inr (Nat.le_trans (by first | exact HK.out.1 | exact (show Kept w _ (fun k_ => P0_ k_) from by repeat (first | (with_reducible first | exact HK.out | apply Kept.alloc | apply Kept.drewN | apply Kept.drew | refine Kept.setCell ?_ (.inr GW271.out) _) | exact HK.out)).1) hk)), Kd.fresh' (Kd.R_lt (pR HO292.out)) k_ hk⟩)); (case aO => exact (pR HO_0.out)); (case aS => exact (below_size pB)); (case aL => have := LMc51.out; omega); intro v294 w55 ho hb hg hat; rw [← Ny293.out] at ho; replace BK271 := am (blk_grown (g := gb271) (o := .cells #[.int .i64 a1_0, .int .u64 a1_1, .string a1_2, .slice A1_3 l1_3.length c1_3] 26 (0, 0)) (pK BK271.out) hg (pX HO_0.out BK271.out)); replace HO292 := am (Kd.R_after (ok := (fun k_ => (P0_ k_ ∨ w.heap.size ≤ k_))) (by (with_reducible repeat (first | apply Kd.R_alloc | apply Kd.R_drewN | apply Kd.R_drew)); exact Kd.R_mono HO292.out (fun _ hk => ⟨hk.1.1, hk.2⟩)) hg hat); replace HB := am (hb); replace HK := am (Kept.of_grown (S := (fun k_ => P0_ k_)) hg (by repeat (first | (with_reducible first | exact HK.out | apply Kept.alloc | apply Kept.drewN | apply Kept.drew | refine Kept.setCell ?_ (.inr GW271.out) _) | exact HK.out)) (fun k_ e_ => (HO_0.out.1 k_ e_).1)); have HO295 := am (ho); clear HO_0; clear ho hb hg hat; have q57 := cf4 BK271.out))
                go_ret2
                exact ⟨_, pE, pZ, pB, by repeat (first | (with_reducible first | exact HK.out | apply Kept.alloc | apply Kept.drewN | apply Kept.drew | refine Kept.setCell ?_ (.inr GW271.out) _) | exact HK.out)⟩
               ·rw [if_neg c52] at H
                have c52b0 : decide (1048576 < (l1_3.length : Int)) = false := decide_eq_false c52
                have c52b1 : decide (1048576 < l1_3.length) = false := decide_eq_false (by omega)
                clear c52
                have H' := am H
                clear H
                have q58 := cf4 BK271.out
                go_wp2_with (first | ((with_reducible refine gate_callee (f := 61) rfl ?_); refine goesL_ (some 69) rfl rfl Tryd.func61 (by kernel_rfl) rfl #[.int .u64 (IntKind.u64.wrap ((l1_3.length : Int))), .int .i64 4] rfl pM ?_; (with_reducible refine (minstrelref07_bytes.calls kj26 (IntKind.u64.wrap ((l1_3.length : Int))) 4 t290 _ A50.out).mono ?_); rintro e w59 ⟨v291, rfl, ho0, hb⟩; refine ⟨_, rfl, ?_⟩; have HO292 := am (Kd.R_lower (Kd.R_new' (Kd.R_newM (M := fun k_ => (P0_ k_ ∨ w.heap.size ≤ k_)) ho0 (by first | exact HK.out.1 | exact (show Kept w _ (fun k_ => P0_ k_) from by repeat (first | (with_reducible first | exact HK.out | apply Kept.alloc | apply Kept.drewN | apply Kept.drew | refine Kept.setCell ?_ (.inr GW271.out) _) | exact HK.out)).1) (fun k_ h_ => .inr h_)) (Kd.R_lt (pR HO_0.out))) (below_size pB)); replace HO_0 := am (Kd.R_elder' (pR HO_0.out) (Kd.R_base ho0) hb); replace BK271 := am (pkb BK271.out hb); replace HK := am (Kept.below (S := (fun k_ => P0_ k_)) (by repeat (first | (with_reducible first | exact HK.out | apply Kept.alloc | apply Kept.drewN | apply Kept.drew | refine Kept.setCell ?_ (.inr GW271.out) _) | exact HK.out)) hb); replace HB := am (below_step pB hb); (try clear hb); (try clear hb2); (try clear hk); (try clear hi); (try clear ho0); obtain ⟨Ao61, co61, eo61⟩ := Kd.R_slice HO292.out; subst eo61) | ((with_reducible refine gate_builtin (b := .append) (xs := #[.tmp 64, .tmp 69]) rfl ?_); (try (refine gate_guard (by rfl) ?_; dsimp only)); at_builtin; refine Kd.R_append_rows (Kd.int .u8) (w0 := w0) w0.heap.size rfl (.tmp 64) (.tmp 69) 31 5 (.int .u8 0) 1 rfl Tryd.underlying31 info5 rfl (by decide) (by omega) u0 x0_26 t290 _ _ _ (fun k_ => (P0_ k_ ∨ w.heap.size ≤ k_) ∧ some k_ ≠ (.slice Ao61 t290.length co61 : Value).ownBlock) (fun _ => False) rfl rfl ?aO ?aR (fun _ _ h => h) (fun _ h => h.elim) ?aF ?aB ?aS ?aL ?_; (case aR => repeat (first | exact (Kd.R_reads' HO292.out).2.2 | (with_reducible refine Kd.C_alloc ?_ _) | (with_reducible refine Kd.C_drewN ?_ _) | (with_reducible refine Kd.C_drew ?_))); (case aB => exact pB); (case aF => exact (fun k_ hk => ⟨(.inr (Nat.le_trans (by first | exact HK.out.1 | exact (show Kept w _ (fun k_ => P0_ k_) from by repeat (first | (with_reducible first | exact HK.out | apply Kept.alloc | apply Kept.drewN | apply Kept.drew | refine Kept.setCell ?_ (.inr GW271.out) _) | exact HK.out)).1) hk)), Kd.fresh' (Kd.R_lt (pR HO292.out)) k_ hk⟩)); (case aO => exact (pR HO_0.out)); (case aS => exact (below_size pB)); (case aL => have := LMc51.out; omega); intro v294 w60 ho hb hg hat; rw [← Ny293.out] at ho; replace BK271 := am (blk_grown (g := gb271) (o := .cells #[.int .i64 a1_0, .int .u64 a1_1, .string a1_2, .slice A1_3 l1_3.length c1_3] 26 (0, 0)) (pK BK271.out) hg (pX HO_0.out BK271.out)); replace HO292 := am (Kd.R_after (ok := (fun k_ => (P0_ k_ ∨ w.heap.size ≤ k_))) (by (with_reducible repeat (first | apply Kd.R_alloc | apply Kd.R_drewN | apply Kd.R_drew)); exact Kd.R_mono HO292.out (fun _ hk => ⟨hk.1.1, hk.2⟩)) hg hat); replace HB := am (hb); replace HK := am (Kept.of_grown (S := (fun k_ => P0_ k_)) hg (by repeat (first | (with_reducible first | exact HK.out | apply Kept.alloc | apply Kept.drewN | apply Kept.drew | refine Kept.setCell ?_ (.inr GW271.out) _) | exact HK.out)) (fun k_ e_ => (HO_0.out.1 k_ e_).1)); have HO295 := am (ho); clear HO_0; clear ho hb hg hat; have q62 := cf4 BK271.out))
                go_meet
                case rel => exact ⟨_, (y293), H', ⟨by have := HJ3.out; have := HJ9.out; have := HJ15.out; have := HJ26.out; first | omega | exact Nat.le_refl _⟩, ⟨by (with_reducible repeat (first | apply Kd.R_alloc | apply Kd.R_drewN | apply Kd.R_drew)); exact Kd.R_mono HO295.out (fun _ hk => hk.1)⟩, ⟨by (with_reducible repeat (first | refine blk_drewN ?_ _ | refine blk_drew ?_ | refine blk_alloc ?_ _)); exact BK271.out⟩, ⟨by repeat (first | (with_reducible first | exact HK.out | apply Kept.alloc | apply Kept.drewN | apply Kept.drew | refine Kept.setCell ?_ (.inr GW271.out) _) | exact HK.out)⟩, ⟨pB⟩⟩
              ·rw [if_neg c51] at H
               exact absurd H (by simp)
             ·rw [if_neg c49] at H
              have c49b0 : (a1_0 == 2) = false := beq_eq_false_iff_ne.mpr c49
              have c49b1 : (a1_0 != 2) = true := bne_iff_ne.mpr c49
              (first | rw [c49b0] | (simp only [i64_w, i32_w]; rw [c49b0]) | rw [c49b1] | (simp only [i64_w, i32_w]; rw [c49b1]) | skip)
              have H' := am H
              clear H
              go_wp2
              go_meet
              case rel => exact ⟨_, (x0_26), H', ⟨by have := HJ3.out; have := HJ9.out; have := HJ15.out; have := HJ26.out; first | omega | exact Nat.le_refl _⟩, ⟨by (with_reducible repeat (first | apply Kd.R_alloc | apply Kd.R_drewN | apply Kd.R_drew)); exact HO_0.out⟩, ⟨by (with_reducible repeat (first | refine blk_drewN ?_ _ | refine blk_drew ?_ | refine blk_alloc ?_ _)); exact BK271.out⟩, ⟨by repeat (first | (with_reducible first | exact HK.out | apply Kept.alloc | apply Kept.drewN | apply Kept.drew | refine Kept.setCell ?_ (.inr GW271.out) _) | exact HK.out)⟩, ⟨pB⟩⟩
            case rest =>
             clear HC47
             try clear c1
             try clear c2
             try clear p2
             try clear c3
             try clear c4
             try clear c5
             try clear c6
             try clear c6b0
             try clear c6b1
             try clear p6
             try clear c9
             try clear c11
             try clear c11b0
             try clear c11b1
             try clear c14
             try clear c15
             try clear c20
             try clear c20b0
             try clear c20b1
             try clear c22
             try clear c29
             try clear c29b0
             try clear c29b1
             try clear c31
             try clear c32
             try clear c32b0
             try clear c39
             try clear c49
             try clear c49b0
             try clear c49b1
             try clear c51
             try clear c52
             try clear c52b0
             try clear c52b1
             try clear c61
             try clear q12 q13 q17 q19 q23 q28 q33 q38 q40 q45 q48 q53 q57 q58 q62 q7 q8
             try clear p2
             try clear p6
             obtain ⟨kq, x0_46, HA, HJ46, HO_0, BK271, HK, HB⟩ := hcut
             cases kq with
             | zero => exact absurd HA.out (by simp [minstrelref07_put.j4])
             | succ kj46 =>
              have H := HA.out
              clear HA
              simp only [minstrelref07_put.j4] at H
              by_cases c63 : (x0_46.length : Int) > 1048576
              ·rw [if_pos c63] at H
               have c63b0 : decide (1048576 < (x0_46.length : Int)) = true := decide_eq_true c63
               have c63b1 : decide (1048576 < x0_46.length) = true := decide_eq_true (by omega)
               clear c63
               simp only [Option.some.injEq, Prod.mk.injEq] at H
               obtain ⟨rfl, rfl⟩ := H
               obtain ⟨Ao64, co64, eo64⟩ := Kd.R_slice HO_0.out
               subst eo64
               go_wp2
               go_ret2
               exact ⟨_, pE, pZ, pB, by repeat (first | (with_reducible first | exact HK.out | apply Kept.alloc | apply Kept.drewN | apply Kept.drew | refine Kept.setCell ?_ (.inr GW271.out) _) | exact HK.out)⟩
              ·rw [if_neg c63] at H
               have c63b0 : decide (1048576 < (x0_46.length : Int)) = false := decide_eq_false c63
               have c63b1 : decide (1048576 < x0_46.length) = false := decide_eq_false (by omega)
               clear c63
               have H' := am H
               clear H
               obtain ⟨Ao65, co65, eo65⟩ := Kd.R_slice HO_0.out
               subst eo65
               go_wp2
               go_loopg [0, 8] kj46 (fun kq v0 v8 w' => ∃ (x0_6 : List Int) (x8_6 : Int), v8 = .int .i64 x8_6 ∧ Aside0 (minstrelref07_put.l0 kq x0_6 a2 x8_6 a1_0 a1_1 a1_2 l1_3 = some (r1, r2)) ∧ Aside0 (kq ≤ kj46) ∧ Aside0 (Kd.R (Kd.int .u8) 5 w' w0.heap.size (fun k_ => (P0_ k_ ∨ w.heap.size ≤ k_)) v0 x0_6) ∧ Aside0 (w'.heap[gb271]? = some (.cells #[.int .i64 a1_0, .int .u64 a1_1, .string a1_2, (.slice A1_3 l1_3.length c1_3)] 26 (0, 0))) ∧ Aside0 (Kept w w' (fun k_ => P0_ k_)) ∧ Aside0 (Below w0.heap.size w0 w'))
               case atStart => exact ⟨(x0_46), (0), (by first | rfl | (simp; done) | (simp [*]; done)), H', ⟨Nat.le_refl _⟩, ⟨by (with_reducible repeat (first | apply Kd.R_alloc | apply Kd.R_drewN | apply Kd.R_drew)); exact HO_0.out⟩, ⟨by (with_reducible repeat (first | refine blk_drewN ?_ _ | refine blk_drew ?_ | refine blk_alloc ?_ _)); exact BK271.out⟩, ⟨by repeat (first | (with_reducible first | exact HK.out | apply Kept.alloc | apply Kept.drewN | apply Kept.drew | refine Kept.setCell ?_ (.inr GW271.out) _) | exact HK.out)⟩, ⟨pB⟩⟩
               case round =>
                clear H'
                try clear c1
                try clear c2
                try clear p2
                try clear c3
                try clear c4
                try clear c5
                try clear c6
                try clear c6b0
                try clear c6b1
                try clear p6
                try clear c9
                try clear c11
                try clear c11b0
                try clear c11b1
                try clear c14
                try clear c15
                try clear c20
                try clear c20b0
                try clear c20b1
                try clear c22
                try clear c29
                try clear c29b0
                try clear c29b1
                try clear c31
                try clear c32
                try clear c32b0
                try clear c39
                try clear c49
                try clear c49b0
                try clear c49b1
                try clear c51
                try clear c52
                try clear c52b0
                try clear c52b1
                try clear c61
                try clear c63
                try clear c63b0
                try clear c63b1
                try clear p64
                try clear q12 q13 q17 q19 q23 q28 q33 q38 q40 q45 q48 q53 q57 q58 q62 q7 q8
                try clear p2
                try clear p6
                obtain ⟨x0_6, x8_6, rfl, HA, HK6, HO_0, BK271, HK, HB⟩ := hrel
                cases gk with
                | zero => exact absurd HA.out (by simp [minstrelref07_put.l0])
                | succ k6 =>
                 have H := HA.out
                 clear HA
                 simp only [minstrelref07_put.l0] at H
                 have HC66 := am H
                 clear H
                 go_upto_region 20 with (fail)
                 go_cut [87] (fun v87 wc => ∃ (kq : Nat) (x87_65 : Bool), v87 = .bool x87_65 ∧ Aside0 (minstrelref07_put.j6 kq x0_6 a2 x8_6 x87_65 a1_0 a1_1 a1_2 l1_3 = some (r1, r2)) ∧ Aside0 (kq ≤ k6) ∧ Aside0 (Kd.R (Kd.int .u8) 5 wc w0.heap.size (fun k_ => (P0_ k_ ∨ w.heap.size ≤ k_)) u0 x0_6) ∧ Aside0 (wc.heap[gb271]? = some (.cells #[.int .i64 a1_0, .int .u64 a1_1, .string a1_2, (.slice A1_3 l1_3.length c1_3)] 26 (0, 0))) ∧ Aside0 (Kept w wc (fun k_ => P0_ k_)) ∧ Aside0 (Below w0.heap.size w0 wc))
                 case first =>
                  have H := HC66.out
                  clear HC66
                  by_cases c67 : a1_0 = 2
                  ·rw [if_pos c67] at H
                   have c67b0 : (a1_0 == 2) = true := beq_iff_eq.mpr c67
                   have c67b1 : (a1_0 != 2) = false := bne_eq_false_iff_eq.mpr c67
                   clear c67
                   (first | rw [c67b0] | (simp only [i64_w, i32_w]; rw [c67b0]) | rw [c67b1] | (simp only [i64_w, i32_w]; rw [c67b1]) | skip)
                   have H' := am H
                   clear H
                   have q68 := cf4 BK271.out
                   go_wp2
                   go_meet
                   case rel => exact ⟨_, (decide (x8_6 < (l1_3.length : Int))), (by first | rfl | (simp; done) | (simp [*]; done)), H', ⟨by have := HJ3.out; have := HJ9.out; have := HJ15.out; have := HJ26.out; have := HJ46.out; have := HK6.out; first | omega | exact Nat.le_refl _⟩, ⟨by (with_reducible repeat (first | apply Kd.R_alloc | apply Kd.R_drewN | apply Kd.R_drew)); exact HO_0.out⟩, ⟨by (with_reducible repeat (first | refine blk_drewN ?_ _ | refine blk_drew ?_ | refine blk_alloc ?_ _)); exact BK271.out⟩, ⟨by repeat (first | (with_reducible first | exact HK.out | apply Kept.alloc | apply Kept.drewN | apply Kept.drew | refine Kept.setCell ?_ (.inr GW271.out) _) | exact HK.out)⟩, ⟨pB⟩⟩
                  ·rw [if_neg c67] at H
                   have c67b0 : (a1_0 == 2) = false := beq_eq_false_iff_ne.mpr c67
                   have c67b1 : (a1_0 != 2) = true := bne_iff_ne.mpr c67
                   (first | rw [c67b0] | (simp only [i64_w, i32_w]; rw [c67b0]) | rw [c67b1] | (simp only [i64_w, i32_w]; rw [c67b1]) | skip)
                   have H' := am H
                   clear H
                   have q69 := cf4 BK271.out
                   go_wp2
                   go_meet
                   case rel => exact ⟨_, (false), (by first | rfl | (simp; done) | (simp [*]; done)), H', ⟨by have := HJ3.out; have := HJ9.out; have := HJ15.out; have := HJ26.out; have := HJ46.out; have := HK6.out; first | omega | exact Nat.le_refl _⟩, ⟨by (with_reducible repeat (first | apply Kd.R_alloc | apply Kd.R_drewN | apply Kd.R_drew)); exact HO_0.out⟩, ⟨by (with_reducible repeat (first | refine blk_drewN ?_ _ | refine blk_drew ?_ | refine blk_alloc ?_ _)); exact BK271.out⟩, ⟨by repeat (first | (with_reducible first | exact HK.out | apply Kept.alloc | apply Kept.drewN | apply Kept.drew | refine Kept.setCell ?_ (.inr GW271.out) _) | exact HK.out)⟩, ⟨pB⟩⟩
                 case rest =>
                  clear HC66
                  try clear c1
                  try clear c2
                  try clear p2
                  try clear c3
                  try clear c4
                  try clear c5
                  try clear c6
                  try clear c6b0
                  try clear c6b1
                  try clear p6
                  try clear c9
                  try clear c11
                  try clear c11b0
                  try clear c11b1
                  try clear c14
                  try clear c15
                  try clear c20
                  try clear c20b0
                  try clear c20b1
                  try clear c22
                  try clear c29
                  try clear c29b0
                  try clear c29b1
                  try clear c31
                  try clear c32
                  try clear c32b0
                  try clear c39
                  try clear c49
                  try clear c49b0
                  try clear c49b1
                  try clear c51
                  try clear c52
                  try clear c52b0
                  try clear c52b1
                  try clear c61
                  try clear c63
                  try clear c63b0
                  try clear c63b1
                  try clear p64
                  try clear c67
                  try clear c67b0
                  try clear c67b1
                  try clear q12 q13 q17 q19 q23 q28 q33 q38 q40 q45 q48 q53 q57 q58 q62 q68 q69 q7 q8
                  try clear p2
                  try clear p6
                  try clear p64
                  obtain ⟨kq, x87_65, rfl, HA, HJ65, HO_0, BK271, HK, HB⟩ := hcut
                  cases kq with
                  | zero => exact absurd HA.out (by simp [minstrelref07_put.j6])
                  | succ kj65 =>
                   have H := HA.out
                   clear HA
                   simp only [minstrelref07_put.j6] at H
                   by_cases c70 : x87_65 = true
                   ·subst c70
                    rw [if_pos rfl] at H
                    by_cases c71 : 0 ≤ x8_6
                    ·rw [if_pos c71] at H
                     have c71b0 : decide (0 ≤ x8_6) = true := decide_eq_true c71
                     clear c71
                     by_cases c72 : x8_6 < (l1_3.length : Int)
                     ·rw [if_pos c72] at H
                      have c72b0 : decide (x8_6 < (l1_3.length : Int)) = true := decide_eq_true c72
                      clear c72
                      replace H := Option.bind_eq_some_iff.mp H
                      obtain ⟨⟨t297, t300⟩, A730, H⟩ := H
                      try dsimp only at H
                      have A73 := am A730
                      clear A730
                      by_cases c74 : t300 = 0
                      ·rw [if_pos c74] at H
                       have c74b0 : (t300 == 0) = true := beq_iff_eq.mpr c74
                       have c74b1 : (t300 != 0) = false := bne_eq_false_iff_eq.mpr c74
                       clear c74
                       have H' := am H
                       clear H
                       have q75 := cf4 BK271.out
                       have p296 : 0 ≤ (x8_6 : Int) := pD
                       have q296 : x8_6 < (l1_3.length : Int) := pD
                       obtain ⟨ad296, A296_3, c296_3, e296, hx296_0, hx296_1, hx296_2, hx296_3, hl296_3, hi296_3⟩ := at_T26 HR1_3.out x8_6 p296 q296
                       replace hx296_0 := (HB.out.cell (World.block_lt_of_cell? _ _ hx296_0)).trans hx296_0
                       replace hx296_1 := (HB.out.cell (World.block_lt_of_cell? _ _ hx296_1)).trans hx296_1
                       replace hx296_2 := (HB.out.cell (World.block_lt_of_cell? _ _ hx296_2)).trans hx296_2
                       replace hx296_3 := (HB.out.cell (World.block_lt_of_cell? _ _ hx296_3)).trans hx296_3
                       cases e296
                       have HR296_3 := am hi296_3
                       have HC296_3 := am hl296_3
                       clear hi296_3 hl296_3
                       replace p296 := eq_true p296
                       replace q296 := eq_true q296
                       obtain ⟨Ao76, co76, eo76⟩ := Kd.R_slice HO_0.out
                       subst eo76
                       go_wp2_with (first | ((with_reducible refine gate_callee (f := 51) rfl ?_); refine goesL_ (some 99) rfl rfl Tryd.func51 (by kernel_rfl) rfl #[.slice Ao76 x0_6.length co76, .agg #[.int .i64 ((rd_T26 l1_3 x8_6).f0), .int .u64 ((rd_T26 l1_3 x8_6).f1), .string ((rd_T26 l1_3 x8_6).f2), .slice A296_3 ((rd_T26 l1_3 x8_6).f3).length c296_3], .int .i64 (wrap64 (a2 + 1))] rfl pM ?_; (with_reducible refine (ih kj65 (by have := HJ3.out; have := HJ9.out; have := HJ15.out; have := HJ26.out; have := HJ46.out; have := HK6.out; have := HJ65.out; omega) (fun k_ => some k_ = (.slice Ao76 x0_6.length co76 : Value).ownBlock) (.slice Ao76 x0_6.length co76) x0_6 ((rd_T26 l1_3 x8_6).f0) ((rd_T26 l1_3 x8_6).f1) ((rd_T26 l1_3 x8_6).f2) _ _ ((rd_T26 l1_3 x8_6).f3) (wrap64 (a2 + 1)) t297 t300 w0 _ ?side1 ?side2 ?side3 ?side4 A73.out).mono ?_); (case side1 => repeat (first | (with_reducible first | exact HB.out | apply below_alloc | apply pw_below_drewN | apply below_drew1 | refine below_set ?_ GE271.out) | exact HB.out)); (case side2 => exact Kd.R_tight rfl HO_0.out); (case side3 => exact HR296_3.out); (case side4 => exact HC296_3.out); rintro e w77 ⟨v298, rfl, ho0, hb, hkp⟩; refine ⟨_, rfl, ?_⟩; replace BK271 := am (blk_kept (pK BK271.out) hkp (fun hs_ => (fun e_ => (pX HO_0.out BK271.out) e_) hs_)); have HO299 := am (Kd.R_mono (ok' := fun k_ => (P0_ k_ ∨ w.heap.size ≤ k_)) ho0 (fun k_ hk_ => Or.elim hk_ (fun hs_ => (HO_0.out.1 k_ (hs_).symm)) (fun hn_ => (.inr (Nat.le_trans (by first | exact HK.out.1 | exact (show Kept w _ (fun k_ => P0_ k_) from by repeat (first | (with_reducible first | exact HK.out | apply Kept.alloc | apply Kept.drewN | apply Kept.drew | refine Kept.setCell ?_ (.inr GW271.out) _) | exact HK.out)).1) hn_))))); replace HK := am (Kept.then_ (S := (fun k_ => P0_ k_)) (by repeat (first | (with_reducible first | exact HK.out | apply Kept.alloc | apply Kept.drewN | apply Kept.drew | refine Kept.setCell ?_ (.inr GW271.out) _) | exact HK.out)) hkp (fun k_ hs_ => (fun e_ => (HO_0.out.1 k_ e_.symm)) hs_)); replace HB := am (hb); clear HO_0; (try clear hb); (try clear hkp); (try clear ho0)))
                       go_roundg kj65
                       case measure => have := HJ3.out; have := HJ9.out; have := HJ15.out; have := HJ26.out; have := HJ46.out; have := HK6.out; have := HJ65.out; omega
                       case rel => exact ⟨(t297), (wrap64 (x8_6 + 1)), (by first | rfl | (simp; done) | (simp [*]; done)), H', ⟨by have := HJ3.out; have := HJ9.out; have := HJ15.out; have := HJ26.out; have := HJ46.out; have := HK6.out; have := HJ65.out; omega⟩, ⟨by (with_reducible repeat (first | apply Kd.R_alloc | apply Kd.R_drewN | apply Kd.R_drew)); exact HO299.out⟩, ⟨by (with_reducible repeat (first | refine blk_drewN ?_ _ | refine blk_drew ?_ | refine blk_alloc ?_ _)); exact BK271.out⟩, ⟨by repeat (first | (with_reducible first | exact HK.out | apply Kept.alloc | apply Kept.drewN | apply Kept.drew | refine Kept.setCell ?_ (.inr GW271.out) _) | exact HK.out)⟩, ⟨pB⟩⟩
                      ·rw [if_neg c74] at H
                       have c74b0 : (t300 == 0) = false := beq_eq_false_iff_ne.mpr c74
                       have c74b1 : (t300 != 0) = true := bne_iff_ne.mpr c74
                       simp only [Option.some.injEq, Prod.mk.injEq] at H
                       obtain ⟨rfl, rfl⟩ := H
                       have q78 := cf4 BK271.out
                       have p296 : 0 ≤ (x8_6 : Int) := pD
                       have q296 : x8_6 < (l1_3.length : Int) := pD
                       obtain ⟨ad296, A296_3, c296_3, e296, hx296_0, hx296_1, hx296_2, hx296_3, hl296_3, hi296_3⟩ := at_T26 HR1_3.out x8_6 p296 q296
                       replace hx296_0 := (HB.out.cell (World.block_lt_of_cell? _ _ hx296_0)).trans hx296_0
                       replace hx296_1 := (HB.out.cell (World.block_lt_of_cell? _ _ hx296_1)).trans hx296_1
                       replace hx296_2 := (HB.out.cell (World.block_lt_of_cell? _ _ hx296_2)).trans hx296_2
                       replace hx296_3 := (HB.out.cell (World.block_lt_of_cell? _ _ hx296_3)).trans hx296_3
                       cases e296
                       have HR296_3 := am hi296_3
                       have HC296_3 := am hl296_3
                       clear hi296_3 hl296_3
                       replace p296 := eq_true p296
                       replace q296 := eq_true q296
                       obtain ⟨Ao79, co79, eo79⟩ := Kd.R_slice HO_0.out
                       subst eo79
                       go_wp2_with (first | ((with_reducible refine gate_callee (f := 51) rfl ?_); refine goesL_ (some 99) rfl rfl Tryd.func51 (by kernel_rfl) rfl #[.slice Ao79 x0_6.length co79, .agg #[.int .i64 ((rd_T26 l1_3 x8_6).f0), .int .u64 ((rd_T26 l1_3 x8_6).f1), .string ((rd_T26 l1_3 x8_6).f2), .slice A296_3 ((rd_T26 l1_3 x8_6).f3).length c296_3], .int .i64 (wrap64 (a2 + 1))] rfl pM ?_; (with_reducible refine (ih kj65 (by have := HJ3.out; have := HJ9.out; have := HJ15.out; have := HJ26.out; have := HJ46.out; have := HK6.out; have := HJ65.out; omega) (fun k_ => some k_ = (.slice Ao79 x0_6.length co79 : Value).ownBlock) (.slice Ao79 x0_6.length co79) x0_6 ((rd_T26 l1_3 x8_6).f0) ((rd_T26 l1_3 x8_6).f1) ((rd_T26 l1_3 x8_6).f2) _ _ ((rd_T26 l1_3 x8_6).f3) (wrap64 (a2 + 1)) t297 t300 w0 _ ?side1 ?side2 ?side3 ?side4 A73.out).mono ?_); (case side1 => repeat (first | (with_reducible first | exact HB.out | apply below_alloc | apply pw_below_drewN | apply below_drew1 | refine below_set ?_ GE271.out) | exact HB.out)); (case side2 => exact Kd.R_tight rfl HO_0.out); (case side3 => exact HR296_3.out); (case side4 => exact HC296_3.out); rintro e w80 ⟨v298, rfl, ho0, hb, hkp⟩; refine ⟨_, rfl, ?_⟩; replace BK271 := am (blk_kept (pK BK271.out) hkp (fun hs_ => (fun e_ => (pX HO_0.out BK271.out) e_) hs_)); have HO299 := am (Kd.R_mono (ok' := fun k_ => (P0_ k_ ∨ w.heap.size ≤ k_)) ho0 (fun k_ hk_ => Or.elim hk_ (fun hs_ => (HO_0.out.1 k_ (hs_).symm)) (fun hn_ => (.inr (Nat.le_trans (by first | exact HK.out.1 | exact (show Kept w _ (fun k_ => P0_ k_) from by repeat (first | (with_reducible first | exact HK.out | apply Kept.alloc | apply Kept.drewN | apply Kept.drew | refine Kept.setCell ?_ (.inr GW271.out) _) | exact HK.out)).1) hn_))))); replace HK := am (Kept.then_ (S := (fun k_ => P0_ k_)) (by repeat (first | (with_reducible first | exact HK.out | apply Kept.alloc | apply Kept.drewN | apply Kept.drew | refine Kept.setCell ?_ (.inr GW271.out) _) | exact HK.out)) hkp (fun k_ hs_ => (fun e_ => (HO_0.out.1 k_ e_.symm)) hs_)); replace HB := am (hb); clear HO_0; (try clear hb); (try clear hkp); (try clear ho0)))
                       go_ret2
                       exact ⟨_, pE, pZ, pB, by repeat (first | (with_reducible first | exact HK.out | apply Kept.alloc | apply Kept.drewN | apply Kept.drew | refine Kept.setCell ?_ (.inr GW271.out) _) | exact HK.out)⟩
                     ·rw [if_neg c72] at H
                      exact absurd H (by simp)
                    ·rw [if_neg c71] at H
                     exact absurd H (by simp)
                   ·replace c70 := Bool.eq_false_iff.mpr c70
                    subst c70
                    rw [if_neg (show ¬ (false = true) by decide)] at H
                    simp only [Option.some.injEq, Prod.mk.injEq] at H
                    obtain ⟨rfl, rfl⟩ := H
                    go_wp2
                    go_ret2
                    exact ⟨_, pE, by (with_reducible repeat (first | apply Kd.R_alloc | apply Kd.R_drewN | apply Kd.R_drew)); exact HO_0.out, pB, by repeat (first | (with_reducible first | exact HK.out | apply Kept.alloc | apply Kept.drewN | apply Kept.drew | refine Kept.setCell ?_ (.inr GW271.out) _) | exact HK.out)⟩
       ·rw [if_neg c15] at H
        exact absurd H (by simp)
end Go.Proofs.YtlkaffbgekbcfaaDoor.Pr
end
section
namespace Go.Proofs.YtlkaffbgekbcfaaDoor.Pr
open Go.RowKit Go.Proofs.YtlkaffbgekbcfaaDoorW.PrintWords Go.Proofs.YtlkaffbgekbcfaaDoorW.PrintLast Go.Proofs.YtlkaffbgekbcfaaDoorW.PrintMore
attribute [local go_sem] max2_int min2_int max_two min_two max_three min_three max_four min_four
def minstrelref07_Encode.f (k : Nat) (a0_0 : Int) (a0_1 : Int) (a0_2 : ByteArray) (l0_3 : List (S26)) : Option (List Int × Int) := (minstrelref07_put.f k ([] : List Int) a0_0 a0_1 a0_2 l0_3 0).bind fun bt302 => (some (bt302.1, bt302.2))
theorem minstrelref07_Encode.mono : ∀ a0 a1 a2 a3 k, LeO (minstrelref07_Encode.f k a0 a1 a2 a3) (minstrelref07_Encode.f (k + 1) a0 a1 a2 a3) := by
 intro a0 a1 a2 a3 k
 unfold minstrelref07_Encode.f
 repeat' first
   | (with_reducible exact minstrelref07_put.mono _ _ _ _ _ _ _)
   | (with_reducible exact LeO.refl _)
   | (with_reducible exact LeO.none _)
   | (with_reducible refine LeO.ite ?_ ?_)
   | (with_reducible refine LeO.bind ?_ (fun _ => ?_))
   | exact minstrelref07_put.mono _ _ _ _ _ _ _
   | exact LeO.none _
   | refine LeO.ite ?_ ?_
   | refine LeO.bind ?_ (fun _ => ?_)
set_option maxHeartbeats 8000000 in
set_option maxRecDepth 100000 in
theorem minstrelref07_Encode.calls (k : Nat) (a0_0 : Int) (a0_1 : Int) (a0_2 : ByteArray) (A0_3 : Option Addr) (c0_3 : Nat) (l0_3 : List (S26)) (r1 : List Int) (r2 : Int) (w : World) (hr0_3 : Kd.C k26 w A0_3 l0_3.length l0_3) (hc0_3 : l0_3.length ≤ c0_3) (h : minstrelref07_Encode.f k a0_0 a0_1 a0_2 l0_3 = some (r1, r2)) :
  Calls Tryd.prog 31 #[.agg #[.int .i64 a0_0, .int .u64 a0_1, .string a0_2, .slice A0_3 l0_3.length c0_3]] w fun e w' => ∃ v0_ : Value, e = .returned (.tuple #[v0_, .int .i64 r2]) ∧ Kd.R (Kd.int .u8) 5 w' w.heap.size (fun _ => True) v0_ r1 ∧ Below w.heap.size w w' := by
 have hu26 := Tryd.underlying26
 have HR0_3 := am hr0_3
 have HC0_3 := am hc0_3
 clear hr0_3 hc0_3
 have HB := am (Below.refl w.heap.size w)
 have H : ((minstrelref07_put.f k ([] : List Int) a0_0 a0_1 a0_2 l0_3 0).bind fun bt302 => (some (bt302.1, bt302.2))) = some (r1, r2) := h
 clear h
 replace H := Option.bind_eq_some_iff.mp H
 obtain ⟨⟨t302, t305⟩, A20, H⟩ := H
 try dsimp only at H
 have A2 := am A20
 clear A20
 simp only [Option.some.injEq, Prod.mk.injEq] at H
 obtain ⟨rfl, rfl⟩ := H
 go_enter Tryd.func31, Tryd.ntmps31
 go_wp2_with (first | ((with_reducible refine gate_dst (N := 1) rfl ?_); refine box_event ?hg (N := 1) ?hd (cs := #[.int .i64 a0_0, .int .u64 a0_1, .string a0_2, .slice A0_3 l0_3.length c0_3]) (t := 26) ?hr ?_; (case hd => rfl); (case hg => rfl); (case hr => first | (go_simp; done) | (go_simp; rfl)); intro gb301 hg w3 hbox hb; have BK301 := am (hbox); have GW301 := am ((by rw [hg]; exact (below_size pB) : w.heap.size ≤ gb301)); have GE301 := am ((by rw [hg]; exact (below_size pB) : w.heap.size ≤ gb301)); replace HB := am (below_step pB hb); clear hb hbox hg; have q4 := cf4 BK301.out) | ((with_reducible refine gate_callee (f := 51) rfl ?_); refine goesL_ (some 5) rfl rfl Tryd.func51 (by kernel_rfl) rfl #[.slice none 0 0, .agg #[.int .i64 a0_0, .int .u64 a0_1, .string a0_2, .slice A0_3 l0_3.length c0_3], .int .i64 0] rfl pM ?_; (refine (minstrelref07_put.calls k (fun k_ => some k_ = (.slice none 0 0 : Value).ownBlock) (.slice none 0 0) ([] : List Int) a0_0 a0_1 a0_2 _ _ l0_3 0 t302 t305 w _ ?side1 ?side2 ?side3 ?side4 A2.out).mono ?_); (case side1 => repeat (first | (with_reducible first | exact HB.out | apply below_alloc | apply pw_below_drewN | apply below_drew1 | refine below_set ?_ GE301.out) | exact HB.out)); (case side2 => exact Kd.R_nil _ _ _ _ _); (case side3 => exact HR0_3.out); (case side4 => exact HC0_3.out); rintro e w5 ⟨v303, rfl, ho0, hb, hkp⟩; refine ⟨_, rfl, ?_⟩; replace BK301 := am (blk_kept (pK BK301.out) hkp (fun hs_ => (fun e_ => by simp [Value.ownBlock] at e_) hs_)); have HO304 := am (Kd.R_mono (ok' := fun k_ => True) ho0 (fun k_ hk_ => trivial)); replace HB := am (hb); (try clear hb); (try clear hkp); (try clear ho0)))
 go_ret2
 exact ⟨_, pE, by (with_reducible repeat (first | apply Kd.R_alloc | apply Kd.R_drewN | apply Kd.R_drew)); exact HO304.out, pB⟩
def minstrelref07_List.f (l0 : List (S26)) : Option (Int × Int × ByteArray × (List (S26))) := some (2, 0, (⟨#[]⟩ : ByteArray), l0)
set_option maxHeartbeats 8000000 in
set_option maxRecDepth 100000 in
theorem minstrelref07_List.calls (P0_ : Nat → Prop) (A0 : Option Addr) (c0 : Nat) (l0 : List (S26)) (r1 : Int) (r2 : Int) (r3 : ByteArray) (r4 : List (S26)) (w : World) (hs0 : Kd.V k26 26 w w.heap.size (fun k_ => P0_ k_) (.slice A0 l0.length c0) l0) (h : minstrelref07_List.f l0 = some (r1, r2, r3, r4)) :
  Calls Tryd.prog 32 #[.slice A0 l0.length c0] w fun e w' => ∃ v3_ : Value, e = .returned (.agg #[.int .i64 r1, .int .u64 r2, .string r3, v3_]) ∧ Kd.V k26 26 w' w.heap.size (fun k_ => (P0_ k_ ∨ w.heap.size ≤ k_)) v3_ r4 ∧ Below w.heap.size w w' := by
 have hu26 := Tryd.underlying26
 have HO0 := am (show Kd.V k26 26 w w.heap.size (fun k_ => (P0_ k_ ∨ w.heap.size ≤ k_)) (.slice A0 l0.length c0) l0 from Kd.V_mono hs0 (fun k_ hk => .inl hk))
 have HB := am (Below.refl w.heap.size w)
 have H : (some (2, 0, (⟨#[]⟩ : ByteArray), l0)) = some (r1, r2, r3, r4) := h
 clear h
 simp only [Option.some.injEq, Prod.mk.injEq] at H
 obtain ⟨rfl, rfl, rfl, rfl⟩ := H
 go_enter Tryd.func32, Tryd.ntmps32
 go_wp2_with (first | ((with_reducible refine gate_dst (N := 2) rfl ?_); refine box_event ?hg (N := 2) ?hd (cs := #[.int .i64 0, .int .u64 0, .string (⟨#[]⟩ : ByteArray), .slice none 0 0]) (t := 26) ?hr ?_; (case hd => rfl); (case hg => rfl); (case hr => first | (go_simp; done) | (go_simp; rfl)); intro gb306 hg w2 hbox hb; replace HO0 := am (Kd.V_below (Kd.V_elderB (pV HO0.out) gb306 (Nat.le_of_eq hg.symm)) hb); have BK306 := am (hbox); have GW306 := am ((by rw [hg]; exact (below_size pB) : w.heap.size ≤ gb306)); have GE306 := am ((by rw [hg]; exact (below_size pB) : w.heap.size ≤ gb306)); replace HB := am (below_step pB hb); clear hb hbox hg; have q3 := cf4 BK306.out))
 refine bodyPost_ret (results_cell_row rfl _ _ gb306 26 #[.int .i64 2, .int .u64 0, .string (⟨#[]⟩ : ByteArray), .slice A0 l0.length c0] (0, 0) _ rfl (by (iterate 3 ((with_reducible repeat (first | refine blk_drewN ?_ _ | refine blk_drew ?_ | refine blk_alloc ?_ _)); refine blk_put (cs := #[.int .i64 2, .int .u64 0, .string (⟨#[]⟩ : ByteArray), .slice none 0 0]) ?_ _ _ rfl)); (with_reducible repeat (first | refine blk_drewN ?_ _ | refine blk_drew ?_ | refine blk_alloc ?_ _)); refine blk_put (cs := #[.int .i64 0, .int .u64 0, .string (⟨#[]⟩ : ByteArray), .slice none 0 0]) ?_ 0 _ rfl; (with_reducible repeat (first | refine blk_drewN ?_ _ | refine blk_drew ?_ | refine blk_alloc ?_ _)); exact BK306.out) Tryd.underlying26 rfl (by kernel_rfl)) rfl ?_
 exact ⟨_, pE, by (with_reducible repeat (first | apply Kd.V_alloc | apply Kd.V_drewN | apply Kd.V_drew)); exact Kd.V_mono (Kd.V_far (p := ⟨gb306, 3, none⟩) (Kd.V_far (p := ⟨gb306, 2, none⟩) (Kd.V_far (p := ⟨gb306, 1, none⟩) (Kd.V_far (p := ⟨gb306, 0, none⟩) (Kd.V_mono HO0.out (fun k_ hk => (⟨hk, hk.2⟩ : _ ∧ k_ ≠ gb306))) (fun _ hk => hk.2) (.int .i64 2)) (fun _ hk => hk.2) (.int .u64 0)) (fun _ hk => hk.2) (.string (⟨#[]⟩ : ByteArray))) (fun _ hk => hk.2) (.slice A0 l0.length c0)) (fun _ hk => hk.1.1), pB⟩
def minstrelref07_Number.f (a0 : Int) : Option (Int × Int × ByteArray × (List (S26))) := some (0, a0, (⟨#[]⟩ : ByteArray), ([] : List (S26)))
set_option maxHeartbeats 8000000 in
set_option maxRecDepth 100000 in
theorem minstrelref07_Number.calls (a0 : Int) (r1 : Int) (r2 : Int) (r3 : ByteArray) (r4 : List (S26)) (w : World) (h : minstrelref07_Number.f a0 = some (r1, r2, r3, r4)) :
  Calls Tryd.prog 33 #[.int .u64 a0] w fun e w' => ∃ v3_ : Value, e = .returned (.agg #[.int .i64 r1, .int .u64 r2, .string r3, v3_]) ∧ Kd.R k26 26 w' w.heap.size (fun _ => True) v3_ r4 ∧ Below w.heap.size w w' := by
 have hu26 := Tryd.underlying26
 have HB := am (Below.refl w.heap.size w)
 have H : (some (0, a0, (⟨#[]⟩ : ByteArray), ([] : List (S26)))) = some (r1, r2, r3, r4) := h
 clear h
 simp only [Option.some.injEq, Prod.mk.injEq] at H
 obtain ⟨rfl, rfl, rfl, rfl⟩ := H
 go_enter Tryd.func33, Tryd.ntmps33
 go_wp2_with (first | ((with_reducible refine gate_dst (N := 2) rfl ?_); refine box_event ?hg (N := 2) ?hd (cs := #[.int .i64 0, .int .u64 0, .string (⟨#[]⟩ : ByteArray), .slice none 0 0]) (t := 26) ?hr ?_; (case hd => rfl); (case hg => rfl); (case hr => first | (go_simp; done) | (go_simp; rfl)); intro gb307 hg w2 hbox hb; have BK307 := am (hbox); have GW307 := am ((by rw [hg]; exact (below_size pB) : w.heap.size ≤ gb307)); have GE307 := am ((by rw [hg]; exact (below_size pB) : w.heap.size ≤ gb307)); replace HB := am (below_step pB hb); clear hb hbox hg; have q3 := cf4 BK307.out))
 refine bodyPost_ret (results_cell_row rfl _ _ gb307 26 #[.int .i64 0, .int .u64 a0, .string (⟨#[]⟩ : ByteArray), .slice none 0 0] (0, 0) _ rfl (by (iterate 2 ((with_reducible repeat (first | refine blk_drewN ?_ _ | refine blk_drew ?_ | refine blk_alloc ?_ _)); refine blk_put (cs := #[.int .i64 0, .int .u64 a0, .string (⟨#[]⟩ : ByteArray), .slice none 0 0]) ?_ _ _ rfl)); (with_reducible repeat (first | refine blk_drewN ?_ _ | refine blk_drew ?_ | refine blk_alloc ?_ _)); refine blk_put (cs := #[.int .i64 0, .int .u64 0, .string (⟨#[]⟩ : ByteArray), .slice none 0 0]) ?_ 1 _ rfl; (with_reducible repeat (first | refine blk_drewN ?_ _ | refine blk_drew ?_ | refine blk_alloc ?_ _)); refine blk_put (cs := #[.int .i64 0, .int .u64 0, .string (⟨#[]⟩ : ByteArray), .slice none 0 0]) ?_ 0 _ rfl; (with_reducible repeat (first | refine blk_drewN ?_ _ | refine blk_drew ?_ | refine blk_alloc ?_ _)); exact BK307.out) Tryd.underlying26 rfl (by kernel_rfl)) rfl ?_
 exact ⟨_, pE, pZ, pB⟩
def minstrelref19_members.l0 : Nat → List Int → List (S26) → Int → Option (Int × Int × ByteArray × (List (S26)))
 | 0, _, _, _ => none
 | k + 1, x0, x3, x4 => if x4 < (x0.length : Int) then (if 0 ≤ x4 then ((minstrelref07_Number.f (IntKind.u64.wrap (rd x0 x4))).bind fun bt313 => (if x3.length < 2513169434916 then (minstrelref19_members.l0 k x0 (x3 ++ [(⟨bt313.1, bt313.2.1, bt313.2.2.1, bt313.2.2.2⟩ : S26)]) (wrap64 (x4 + 1))) else (none))) else (none)) else ((minstrelref07_List.f x3).bind fun bt322 => (some (bt322.1, bt322.2.1, bt322.2.2.1, bt322.2.2.2)))
def minstrelref19_members.f (k : Nat) (l0 : List Int) : Option (Int × Int × ByteArray × (List (S26))) := minstrelref19_members.l0 k l0 (([] : List (S26))) 0
theorem minstrelref19_members.mono_l : ∀ k, (∀ y0 y1 y2, LeO (minstrelref19_members.l0 k y0 y1 y2) (minstrelref19_members.l0 (k + 1) y0 y1 y2))
 | 0 => fun _ _ _ r h => by simp [minstrelref19_members.l0] at h
 | k + 1 => by
  have ih0 := minstrelref19_members.mono_l k
  ·intro y0 y1 y2
   unfold minstrelref19_members.l0
   repeat' first
   | (with_reducible exact ih0 _ _ _)
   | (with_reducible exact LeO.refl _)
   | (with_reducible exact LeO.none _)
   | (with_reducible refine LeO.ite ?_ ?_)
   | (with_reducible refine LeO.bind ?_ (fun _ => ?_))
   | exact ih0 _ _ _
   | exact LeO.none _
   | refine LeO.ite ?_ ?_
   | refine LeO.bind ?_ (fun _ => ?_)
theorem minstrelref19_members.mono : ∀ a0 k, LeO (minstrelref19_members.f k a0) (minstrelref19_members.f (k + 1) a0) := by
 intro a0 k
 have ih0 := minstrelref19_members.mono_l k
 unfold minstrelref19_members.f
 repeat' first
   | (with_reducible exact ih0 _ _ _)
   | (with_reducible exact LeO.refl _)
   | (with_reducible exact LeO.none _)
   | (with_reducible refine LeO.ite ?_ ?_)
   | (with_reducible refine LeO.bind ?_ (fun _ => ?_))
   | exact ih0 _ _ _
   | exact LeO.none _
   | refine LeO.ite ?_ ?_
   | refine LeO.bind ?_ (fun _ => ?_)
set_option maxHeartbeats 8000000 in
set_option maxRecDepth 100000 in
theorem minstrelref19_members.calls (k : Nat) (A0 : Option Addr) (c0 : Nat) (l0 : List Int) (r1 : Int) (r2 : Int) (r3 : ByteArray) (r4 : List (S26)) (w : World) (hr0 : Kd.C (Kd.int .i64) w A0 l0.length l0) (hc0 : l0.length ≤ c0) (h : minstrelref19_members.f k l0 = some (r1, r2, r3, r4)) :
  Calls Tryd.prog 34 #[.slice A0 l0.length c0] w fun e w' => ∃ v3_ : Value, e = .returned (.agg #[.int .i64 r1, .int .u64 r2, .string r3, v3_]) ∧ Kd.V k26 26 w' w.heap.size (fun k_ => (w.heap.size ≤ k_)) v3_ r4 ∧ Below w.heap.size w w' := by
 have hu26 := Tryd.underlying26
 have HR0 := am hr0
 have HC0 := am hc0
 clear hr0 hc0
 have HB := am (Below.refl w.heap.size w)
 have H : (minstrelref19_members.l0 k l0 (([] : List (S26))) 0) = some (r1, r2, r3, r4) := h
 clear h
 obtain ⟨y309, hy309⟩ : ∃ y_ : List (S26), y_ = (([] : List (S26))) := ⟨_, rfl⟩
 replace H : (minstrelref19_members.l0 k l0 y309 0) = some (r1, r2, r3, r4) := by first | (rw [hy309]; with_reducible exact H) | (have H2_ := (Option.bind_some _ _).symm.trans H; rw [hy309]; with_reducible exact H2_) | (have H2_ := (Option.bind_some _ _).symm.trans H; with_reducible exact H2_) | with_reducible exact H | (rw [hy309]; exact H) | exact H
 have Ny309 := am hy309
 clear hy309
 have H' := am H
 clear H
 go_enter Tryd.func34, Tryd.ntmps34
 go_wp2_with (first | ((with_reducible refine gate_dst (N := 2) rfl ?_); refine box_event ?hg (N := 2) ?hd (cs := #[.int .i64 0, .int .u64 0, .string (⟨#[]⟩ : ByteArray), .slice none 0 0]) (t := 26) ?hr ?_; (case hd => rfl); (case hg => rfl); (case hr => first | (go_simp; done) | (go_simp; rfl)); intro gb308 hg w2 hbox hb; have BK308 := am (hbox); have GW308 := am ((by rw [hg]; exact (below_size pB) : w.heap.size ≤ gb308)); have GE308 := am ((by rw [hg]; exact (below_size pB) : w.heap.size ≤ gb308)); replace HB := am (below_step pB hb); clear hb hbox hg) | ((with_reducible refine gate_dst (N := 5) rfl ?_); refine Kd.R_lit k26 _ 26 ?hg (N := 5) ?hd (xs := ([] : List (S26))) (inner := []) (ok := fun _ => True) (okp := fun _ => True) ?hr ?hp (fun _ hk => hk) trivial (Below.refl _ _) (Nat.le_refl _) (by simp) ?_; (case hd => rfl); (case hg => rfl); (case hr => first | (go_simp; done) | (go_simp; rfl)); (case hp => exact (Reps.none _ _)); intro v310 w3 ho4 hb hg_ hnew_; clear hg_ hnew_; (first | rw [← Ny309.out] at ho4 | (simp only [Int.reduceToNat] at ho4; rw [← Ny309.out] at ho4)); have HO311 := am (Kd.R_lower (Kd.R_newB (Kd.R_newM (M := fun k_ => (w.heap.size ≤ k_)) ho4 (below_size pB) (fun k_ h_ => h_)) (g := gb308) (o := .cells #[.int .i64 0, .int .u64 0, .string (⟨#[]⟩ : ByteArray), .slice none 0 0] 26 (0, 0)) (pK BK308.out)) (below_size pB)); replace BK308 := am (pkb BK308.out hb); replace HB := am (below_step pB hb); clear hb ho4))
 go_loopg [3, 4] k (fun kq v3 v4 w' => ∃ (x3_1 : List (S26)) (x4_1 : Int), v4 = .int .i64 x4_1 ∧ Aside0 (minstrelref19_members.l0 kq l0 x3_1 x4_1 = some (r1, r2, r3, r4)) ∧ Aside0 (kq ≤ k) ∧ Aside0 (Kd.R k26 26 w' w.heap.size (fun k_ => (w.heap.size ≤ k_) ∧ k_ ≠ gb308) v3 x3_1) ∧ Aside0 (w'.heap[gb308]? = some (.cells #[.int .i64 0, .int .u64 0, .string (⟨#[]⟩ : ByteArray), (.slice none 0 0)] 26 (0, 0))) ∧ Aside0 (Below w.heap.size w w'))
 case atStart => exact ⟨(y309), (0), (by first | rfl | (simp; done) | (simp [*]; done)), H', ⟨Nat.le_refl _⟩, ⟨by (with_reducible repeat (first | apply Kd.R_alloc | apply Kd.R_drewN | apply Kd.R_drew)); exact Kd.R_mono HO311.out (fun _ hk => ⟨hk.1.1, hk.2⟩)⟩, ⟨by (with_reducible repeat (first | refine blk_drewN ?_ _ | refine blk_drew ?_ | refine blk_alloc ?_ _)); exact BK308.out⟩, ⟨pB⟩⟩
 case round =>
  clear H'
  try clear p2
  try clear c3
  obtain ⟨x3_1, x4_1, rfl, HA, HK1, HO_3, BK308, HB⟩ := hrel
  cases gk with
  | zero => exact absurd HA.out (by simp [minstrelref19_members.l0])
  | succ k1 =>
   have H := HA.out
   clear HA
   simp only [minstrelref19_members.l0] at H
   by_cases c5 : x4_1 < (l0.length : Int)
   ·rw [if_pos c5] at H
    have c5b0 : decide (x4_1 < (l0.length : Int)) = true := decide_eq_true c5
    clear c5
    by_cases c6 : 0 ≤ x4_1
    ·rw [if_pos c6] at H
     have c6b0 : decide (0 ≤ x4_1) = true := decide_eq_true c6
     clear c6
     replace H := Option.bind_eq_some_iff.mp H
     obtain ⟨⟨t313, t314, t315, t316⟩, A70, H⟩ := H
     try dsimp only at H
     have A7 := am A70
     clear A70
     by_cases c8 : x3_1.length < 2513169434916
     ·rw [if_pos c8] at H
      have LMc8 := am c8
      clear c8
      obtain ⟨y319, hy319⟩ : ∃ y_ : List (S26), y_ = (x3_1 ++ [(⟨t313, t314, t315, t316⟩ : S26)]) := ⟨_, rfl⟩
      replace H : (minstrelref19_members.l0 k1 l0 y319 (wrap64 (x4_1 + 1))) = some (r1, r2, r3, r4) := by first | (rw [hy319]; with_reducible exact H) | (have H2_ := (Option.bind_some _ _).symm.trans H; rw [hy319]; with_reducible exact H2_) | (have H2_ := (Option.bind_some _ _).symm.trans H; with_reducible exact H2_) | with_reducible exact H | (rw [hy319]; exact H) | exact H
      have Ny319 := am hy319
      clear hy319
      have H' := am H
      clear H
      have p312 : 0 ≤ (x4_1 : Int) := pD
      have q312 : x4_1 < (l0.length : Int) := pD
      obtain ⟨ad312, e312, hx312_0⟩ := Kd.at_int HR0.out x4_1 p312 q312
      cases e312
      replace hx312_0 := (HB.out.cell (World.block_lt_of_cell? w _ hx312_0)).trans hx312_0
      replace p312 := eq_true p312
      replace q312 := eq_true q312
      go_wp2_with (first | ((with_reducible refine gate_callee (f := 33) rfl ?_); refine goesL_ (some 18) rfl rfl Tryd.func33 (by kernel_rfl) rfl #[.int .u64 (IntKind.u64.wrap (rd l0 x4_1))] rfl pM ?_; (with_reducible refine (minstrelref07_Number.calls (IntKind.u64.wrap (rd l0 x4_1)) t313 t314 t315 t316 _ A7.out).mono ?_); rintro e w9 ⟨v317, rfl, ho0, hb⟩; refine ⟨_, rfl, ?_⟩; have HO318 := am (Kd.R_lower (Kd.R_newB (Kd.R_new' (Kd.R_newM (M := fun k_ => (w.heap.size ≤ k_)) ho0 (below_size pB) (fun k_ h_ => h_)) (Kd.R_lt (pR HO_3.out))) (g := gb308) (o := .cells #[.int .i64 0, .int .u64 0, .string (⟨#[]⟩ : ByteArray), .slice none 0 0] 26 (0, 0)) (pK BK308.out)) (below_size pB)); replace HO_3 := am (Kd.R_elder' (pR HO_3.out) (Kd.R_base ho0) hb); replace BK308 := am (pkb BK308.out hb); replace HB := am (below_step pB hb); (try clear hb); (try clear hb2); (try clear hk); (try clear hi); (try clear ho0); obtain ⟨Ao11, co11, eo11⟩ := Kd.R_slice HO318.out; subst eo11) | ((with_reducible refine gate_builtin (b := .append) (xs := #[.tmp 12, .tmp 19]) rfl ?_); at_builtin; refine Kd.R_append k26 (w0 := w) w.heap.size rfl (.tmp 12) (.tmp 19) 24 26 (.agg #[(.int .i64 0), (.int .u64 0), (.string ⟨#[]⟩), (.slice none 0 0)]) 56 rfl Tryd.underlying24 info26 rfl (by decide) (by omega) u3 x3_1 (⟨t313, t314, t315, t316⟩ : S26) [.int .i64 t313, .int .u64 t314, .string t315, .slice Ao11 t316.length co11] (fun k_ => (w.heap.size ≤ k_) ∧ k_ ≠ gb308) (fun k_ => ((fun k_ => (w.heap.size ≤ k_) ∧ k_ ≠ gb308)) k_ ∧ some k_ ≠ (u3 : Value).ownBlock) rfl rfl ?aP (fun _ hk => hk) ?aF ?aO ?aB ?aS ?aL ?_; (case aP => exact k26_mkM _ _ _ (⟨t313, t314, t315, t316⟩ : S26) (Kd.R_mono (HO318.out) (fun k_ hk => ⟨⟨hk.1.1.1, hk.2⟩, hk.1.2⟩))); (case aB => exact pB); (case aF => exact (fun k_ hk => ⟨(Nat.le_trans (below_size pB) hk), Kd.freshB (g := gb308) (o := .cells #[.int .i64 0, .int .u64 0, .string (⟨#[]⟩ : ByteArray), .slice none 0 0] 26 (0, 0)) (pK BK308.out) k_ hk⟩)); (case aO => exact (by (with_reducible repeat (first | apply Kd.R_alloc | apply Kd.R_drewN | apply Kd.R_drew)); exact Kd.R_mono HO_3.out (fun _ hk => ⟨hk.1.1, hk.1.2⟩))); (case aS => exact (below_size pB)); (case aL => have := LMc8.out; omega); intro v320 w10 ho hb hg hat; rw [← Ny319.out] at ho; replace BK308 := am (blk_grown (g := gb308) (o := .cells #[.int .i64 0, .int .u64 0, .string (⟨#[]⟩ : ByteArray), .slice none 0 0] 26 (0, 0)) (pK BK308.out) hg (Kd.R_away HO_3.out (fun _ hk => hk.1.2))); replace HB := am (hb); have HO321 := am (ho); clear HO_3 HO318; clear ho hb hg hat))
      go_roundg k1
      case measure => have := HK1.out; omega
      case rel => exact ⟨(y319), (wrap64 (x4_1 + 1)), (by first | rfl | (simp; done) | (simp [*]; done)), H', ⟨by have := HK1.out; omega⟩, ⟨by (with_reducible repeat (first | apply Kd.R_alloc | apply Kd.R_drewN | apply Kd.R_drew)); exact HO321.out⟩, ⟨by (with_reducible repeat (first | refine blk_drewN ?_ _ | refine blk_drew ?_ | refine blk_alloc ?_ _)); exact BK308.out⟩, ⟨pB⟩⟩
     ·rw [if_neg c8] at H
      exact absurd H (by simp)
    ·rw [if_neg c6] at H
     exact absurd H (by simp)
   ·rw [if_neg c5] at H
    have c5b0 : decide (x4_1 < (l0.length : Int)) = false := decide_eq_false c5
    clear c5
    replace H := Option.bind_eq_some_iff.mp H
    obtain ⟨⟨t322, t323, t324, t325⟩, A120, H⟩ := H
    try dsimp only at H
    have A12 := am A120
    clear A120
    simp only [Option.some.injEq, Prod.mk.injEq] at H
    obtain ⟨rfl, rfl, rfl, rfl⟩ := H
    obtain ⟨Ao13, co13, eo13⟩ := Kd.R_slice HO_3.out
    subst eo13
    go_wp2_with (first | ((with_reducible refine gate_callee (f := 32) rfl ?_); refine goesL_ (some 22) rfl rfl Tryd.func32 (by kernel_rfl) rfl #[.slice Ao13 x3_1.length co13] rfl pM ?_; (with_reducible refine (minstrelref07_List.calls (fun k_ => ((w.heap.size ≤ k_) ∧ k_ ≠ gb308)) _ _ x3_1 t322 t323 t324 t325 _ ?side1 A12.out).mono ?_); (case side1 => exact Kd.R_V (HO_3.out)); rintro e w14 ⟨v326, rfl, ho0, hb⟩; refine ⟨_, rfl, ?_⟩; replace HO_3 := am (Kd.R_below (pR HO_3.out) hb); have HO327 := am (Kd.V_lower (Kd.V_mono (ok' := fun k_ => (w.heap.size ≤ k_) ∧ k_ ≠ gb308) ho0 (fun k_ hk_ => ⟨Or.elim hk_ (fun hs_ => hs_.1) (fun hn_ => (Nat.le_trans (below_size pB) hn_)), Or.elim hk_ (fun hs_ => hs_.2) (fun hn_ => (Kd.freshB (g := gb308) (o := .cells #[.int .i64 0, .int .u64 0, .string (⟨#[]⟩ : ByteArray), .slice none 0 0] 26 (0, 0)) (pK BK308.out) k_ hn_))⟩)) (below_size pB)); replace BK308 := am (pkb BK308.out hb); replace HB := am (below_step pB hb); (try clear hb); (try clear hb2); (try clear hk); (try clear hi); (try clear ho0); have q15 := cf4 BK308.out; obtain ⟨Ao16, co16, eo16⟩ := Kd.V_slice HO327.out; subst eo16))
    refine bodyPost_ret (results_cell_row rfl _ _ gb308 26 #[.int .i64 t322, .int .u64 t323, .string t324, .slice Ao16 t325.length co16] (0, 0) _ rfl (by (with_reducible repeat (first | refine blk_drewN ?_ _ | refine blk_drew ?_ | refine blk_alloc ?_ _)); refine blk_put (cs := #[.int .i64 t322, .int .u64 t323, .string t324, .slice none 0 0]) ?_ 3 _ rfl; (with_reducible repeat (first | refine blk_drewN ?_ _ | refine blk_drew ?_ | refine blk_alloc ?_ _)); refine blk_put (cs := #[.int .i64 t322, .int .u64 t323, .string (⟨#[]⟩ : ByteArray), .slice none 0 0]) ?_ 2 _ rfl; (with_reducible repeat (first | refine blk_drewN ?_ _ | refine blk_drew ?_ | refine blk_alloc ?_ _)); refine blk_put (cs := #[.int .i64 t322, .int .u64 0, .string (⟨#[]⟩ : ByteArray), .slice none 0 0]) ?_ 1 _ rfl; (with_reducible repeat (first | refine blk_drewN ?_ _ | refine blk_drew ?_ | refine blk_alloc ?_ _)); refine blk_put (cs := #[.int .i64 0, .int .u64 0, .string (⟨#[]⟩ : ByteArray), .slice none 0 0]) ?_ 0 _ rfl; (with_reducible repeat (first | refine blk_drewN ?_ _ | refine blk_drew ?_ | refine blk_alloc ?_ _)); exact BK308.out) Tryd.underlying26 rfl (by kernel_rfl)) rfl ?_
    exact ⟨_, pE, by (with_reducible repeat (first | apply Kd.V_alloc | apply Kd.V_drewN | apply Kd.V_drew)); exact Kd.V_mono (Kd.V_far (p := ⟨gb308, 3, none⟩) (Kd.V_far (p := ⟨gb308, 2, none⟩) (Kd.V_far (p := ⟨gb308, 1, none⟩) (Kd.V_far (p := ⟨gb308, 0, none⟩) (Kd.V_mono HO327.out (fun k_ hk => (⟨hk, hk.2⟩ : _ ∧ k_ ≠ gb308))) (fun _ hk => hk.2) (.int .i64 t322)) (fun _ hk => hk.2) (.int .u64 t323)) (fun _ hk => hk.2) (.string t324)) (fun _ hk => hk.2) (.slice Ao16 t325.length co16)) (fun _ hk => hk.1.1), pB⟩
def minstrelref06_Four.f (a0 : Int) : Option (List Int) := some (([(a0 / 16777216) % 256, (Go.bits .and .u32 (a0 / 65536) 255) % 256, (Go.bits .and .u32 (a0 / 256) 255) % 256, (Go.bits .and .u32 a0 255) % 256] : List Int))
set_option maxHeartbeats 8000000 in
set_option maxRecDepth 100000 in
theorem minstrelref06_Four.calls (a0 : Int) (r : List Int) (w : World) (h : minstrelref06_Four.f a0 = some r) :
  Calls Tryd.prog 52 #[.int .u32 a0] w fun e w' => ∃ v0_ : Value, e = .returned (v0_) ∧ Kd.R (Kd.int .u8) 5 w' w.heap.size (fun _ => True) v0_ r ∧ Below w.heap.size w w' := by
 have HB := am (Below.refl w.heap.size w)
 have H : (some (([(a0 / 16777216) % 256, (Go.bits .and .u32 (a0 / 65536) 255) % 256, (Go.bits .and .u32 (a0 / 256) 255) % 256, (Go.bits .and .u32 a0 255) % 256] : List Int))) = some r := h
 clear h
 obtain ⟨y328, hy328⟩ : ∃ y_ : List Int, y_ = (([(a0 / 16777216) % 256, (Go.bits .and .u32 (a0 / 65536) 255) % 256, (Go.bits .and .u32 (a0 / 256) 255) % 256, (Go.bits .and .u32 a0 255) % 256] : List Int)) := ⟨_, rfl⟩
 replace H : (some y328) = some r := by first | (rw [hy328]; with_reducible exact H) | (have H2_ := (Option.bind_some _ _).symm.trans H; rw [hy328]; with_reducible exact H2_) | (have H2_ := (Option.bind_some _ _).symm.trans H; with_reducible exact H2_) | with_reducible exact H | (rw [hy328]; exact H) | exact H
 have Ny328 := am hy328
 clear hy328
 obtain rfl := Option.some.inj H
 go_enter Tryd.func52, Tryd.ntmps52
 go_wp2_with (first | ((with_reducible refine gate_dst (N := 17) rfl ?_); refine Kd.R_lit (Kd.int .u8) _ 5 ?hg (N := 17) ?hd (xs := ([(a0 / 16777216) % 256, (Go.bits .and .u32 (a0 / 65536) 255) % 256, (Go.bits .and .u32 (a0 / 256) 255) % 256, (Go.bits .and .u32 a0 255) % 256] : List Int)) (inner := [.int .u8 ((a0 / 16777216) % 256), .int .u8 ((Go.bits .and .u32 (a0 / 65536) 255) % 256), .int .u8 ((Go.bits .and .u32 (a0 / 256) 255) % 256), .int .u8 ((Go.bits .and .u32 a0 255) % 256)]) (ok := fun _ => True) (okp := fun _ => True) ?hr ?hp (fun _ hk => hk) trivial (Below.refl _ _) (Nat.le_refl _) (by simp) ?_; (case hd => rfl); (case hg => rfl); (case hr => first | (go_simp; done) | (go_simp; rfl)); (case hp => exact (Reps.one (show Kd.M (Kd.int .u8) _ _ _ ((a0 / 16777216) % 256) [.int .u8 ((a0 / 16777216) % 256)] from rfl) (Reps.one (show Kd.M (Kd.int .u8) _ _ _ ((Go.bits .and .u32 (a0 / 65536) 255) % 256) [.int .u8 ((Go.bits .and .u32 (a0 / 65536) 255) % 256)] from rfl) (Reps.one (show Kd.M (Kd.int .u8) _ _ _ ((Go.bits .and .u32 (a0 / 256) 255) % 256) [.int .u8 ((Go.bits .and .u32 (a0 / 256) 255) % 256)] from rfl) (Reps.one (show Kd.M (Kd.int .u8) _ _ _ ((Go.bits .and .u32 a0 255) % 256) [.int .u8 ((Go.bits .and .u32 a0 255) % 256)] from rfl) (Reps.none _ _)))))); intro v329 w2 ho3 hb hg_ hnew_; clear hg_ hnew_; (first | rw [← Ny328.out] at ho3 | (simp only [Int.reduceToNat] at ho3; rw [← Ny328.out] at ho3)); have HO330 := am (Kd.R_lower ho3 (below_size pB)); replace HB := am (below_step pB hb); clear hb ho3))
 go_ret
 exact ⟨_, pE, by (with_reducible repeat (first | apply Kd.R_alloc | apply Kd.R_drewN | apply Kd.R_drew)); exact HO330.out, pB⟩
mutual
def minstrelref06_Sum.l0 : Nat → List Int → Int → Int → Option (Int)
 | 0, _, _, _ => none
 | k + 1, x0, x3, x4 => if x4 < (x0.length : Int) then (minstrelref06_Sum.l1 k x0 x3 x4 0) else (some (Go.bits .xor .u32 4294967295 x3))
def minstrelref06_Sum.l1 : Nat → List Int → Int → Int → Int → Option (Int)
 | 0, _, _, _, _ => none
 | k + 1, x0, x3, x4, x5 => if x5 < 8 then (if 0 ≤ x4 then (if x4 < (x0.length : Int) then (if 0 ≤ (IntKind.u64.wrap (x5)) then (if (Go.bits .and .u32 x3 1) = ((Go.bits .and .u8 (shr .u8 (rd x0 x4) (IntKind.u64.wrap (x5))) 1) % 4294967296) then (minstrelref06_Sum.l1 k x0 (x3 / 2) x4 (wrap64 (x5 + 1))) else (minstrelref06_Sum.l1 k x0 (Go.bits .xor .u32 (x3 / 2) 3988292384) x4 (wrap64 (x5 + 1)))) else (none)) else (none)) else (none)) else (minstrelref06_Sum.l0 k x0 x3 (wrap64 (x4 + 1)))
end
def minstrelref06_Sum.f (k : Nat) (l0 : List Int) : Option (Int) := minstrelref06_Sum.l0 k l0 4294967295 0
theorem minstrelref06_Sum.mono_l : ∀ k, (∀ y0 y1 y2, LeO (minstrelref06_Sum.l0 k y0 y1 y2) (minstrelref06_Sum.l0 (k + 1) y0 y1 y2)) ∧ (∀ y0 y1 y2 y3, LeO (minstrelref06_Sum.l1 k y0 y1 y2 y3) (minstrelref06_Sum.l1 (k + 1) y0 y1 y2 y3))
 | 0 => ⟨fun _ _ _ r h => by simp [minstrelref06_Sum.l0] at h, fun _ _ _ _ r h => by simp [minstrelref06_Sum.l1] at h⟩
 | k + 1 => by
  obtain ⟨ih0, ih1⟩ := minstrelref06_Sum.mono_l k
  refine ⟨?_, ?_⟩
  ·intro y0 y1 y2
   unfold minstrelref06_Sum.l0
   repeat' first
   | (with_reducible exact ih0 _ _ _)
   | (with_reducible exact ih1 _ _ _ _)
   | (with_reducible exact LeO.refl _)
   | (with_reducible exact LeO.none _)
   | (with_reducible refine LeO.ite ?_ ?_)
   | (with_reducible refine LeO.bind ?_ (fun _ => ?_))
   | exact ih0 _ _ _
   | exact ih1 _ _ _ _
   | exact LeO.none _
   | refine LeO.ite ?_ ?_
   | refine LeO.bind ?_ (fun _ => ?_)
  ·intro y0 y1 y2 y3
   unfold minstrelref06_Sum.l1
   repeat' first
   | (with_reducible exact ih0 _ _ _)
   | (with_reducible exact ih1 _ _ _ _)
   | (with_reducible exact LeO.refl _)
   | (with_reducible exact LeO.none _)
   | (with_reducible refine LeO.ite ?_ ?_)
   | (with_reducible refine LeO.bind ?_ (fun _ => ?_))
   | exact ih0 _ _ _
   | exact ih1 _ _ _ _
   | exact LeO.none _
   | refine LeO.ite ?_ ?_
   | refine LeO.bind ?_ (fun _ => ?_)
theorem minstrelref06_Sum.mono : ∀ a0 k, LeO (minstrelref06_Sum.f k a0) (minstrelref06_Sum.f (k + 1) a0) := by
 intro a0 k
 obtain ⟨ih0, ih1⟩ := minstrelref06_Sum.mono_l k
 unfold minstrelref06_Sum.f
 repeat' first
   | (with_reducible exact ih0 _ _ _)
   | (with_reducible exact ih1 _ _ _ _)
   | (with_reducible exact LeO.refl _)
   | (with_reducible exact LeO.none _)
   | (with_reducible refine LeO.ite ?_ ?_)
   | (with_reducible refine LeO.bind ?_ (fun _ => ?_))
   | exact ih0 _ _ _
   | exact ih1 _ _ _ _
   | exact LeO.none _
   | refine LeO.ite ?_ ?_
   | refine LeO.bind ?_ (fun _ => ?_)
set_option maxHeartbeats 8000000 in
set_option maxRecDepth 100000 in
theorem minstrelref06_Sum.calls (k : Nat) (A0 : Option Addr) (c0 : Nat) (l0 : List Int) (r : Int) (w : World) (hr0 : Kd.C (Kd.int .u8) w A0 l0.length l0) (hc0 : l0.length ≤ c0) (h : minstrelref06_Sum.f k l0 = some r) :
  Calls Tryd.prog 53 #[.slice A0 l0.length c0] w fun e w' => e = .returned (.int .u32 r) ∧ Drawn0 w w' := by
 have HR0 := am hr0
 have HC0 := am hc0
 clear hr0 hc0
 have H : (minstrelref06_Sum.l0 k l0 4294967295 0) = some r := h
 clear h
 have H' := am H
 clear H
 go_enter Tryd.func53, Tryd.ntmps53
 go_wp2
 go_loopg [3, 4] k (fun kq v3 v4 w' => ∃ (x3_1 : Int) (x4_1 : Int), v3 = .int .u32 x3_1 ∧ v4 = .int .i64 x4_1 ∧ Aside0 (minstrelref06_Sum.l0 kq l0 x3_1 x4_1 = some r) ∧ Aside0 (kq ≤ k) ∧ Drawn0 w w')
 case atStart => exact ⟨(4294967295), (0), (by first | rfl | (simp; done) | (simp [*]; done)), (by first | rfl | (simp; done) | (simp [*]; done)), H', ⟨Nat.le_refl _⟩, by repeat (first | exact Drawn0.refl _ | apply Drawn0.step)⟩
 case round =>
  clear H'
  obtain ⟨x3_1, x4_1, rfl, rfl, HA, HK1, ⟨m1, rfl⟩⟩ := hrel
  cases gk with
  | zero => exact absurd HA.out (by simp [minstrelref06_Sum.l0])
  | succ k1 =>
   have H := HA.out
   clear HA
   simp only [minstrelref06_Sum.l0] at H
   by_cases c2 : x4_1 < (l0.length : Int)
   ·rw [if_pos c2] at H
    have c2b0 : decide (x4_1 < (l0.length : Int)) = true := decide_eq_true c2
    clear c2
    have H' := am H
    clear H
    go_wp2
    go_loopg [3, 5] k1 (fun kq v3 v5 w' => ∃ (x3_2 : Int) (x5_2 : Int), v3 = .int .u32 x3_2 ∧ v5 = .int .i64 x5_2 ∧ Aside0 (minstrelref06_Sum.l1 kq l0 x3_2 x4_1 x5_2 = some r) ∧ Aside0 (kq ≤ k1) ∧ Drawn0 w w')
    case atStart => exact ⟨(x3_1), (0), (by first | rfl | (simp; done) | (simp [*]; done)), (by first | rfl | (simp; done) | (simp [*]; done)), H', ⟨Nat.le_refl _⟩, by repeat (first | exact Drawn0.refl _ | apply Drawn0.step)⟩
    case round =>
     clear H'
     try clear c2
     try clear c2b0
     try clear p2
     obtain ⟨x3_2, x5_2, rfl, rfl, HA, HK2, ⟨m2, rfl⟩⟩ := hrel
     cases gk with
     | zero => exact absurd HA.out (by simp [minstrelref06_Sum.l1])
     | succ k2 =>
      have H := HA.out
      clear HA
      simp only [minstrelref06_Sum.l1] at H
      by_cases c3 : x5_2 < 8
      ·rw [if_pos c3] at H
       have c3b0 : decide (x5_2 < 8) = true := decide_eq_true c3
       clear c3
       by_cases c4 : 0 ≤ x4_1
       ·rw [if_pos c4] at H
        have c4b0 : decide (0 ≤ x4_1) = true := decide_eq_true c4
        clear c4
        by_cases c5 : x4_1 < (l0.length : Int)
        ·rw [if_pos c5] at H
         have c5b0 : decide (x4_1 < (l0.length : Int)) = true := decide_eq_true c5
         clear c5
         obtain ⟨ji6, hji6⟩ : ∃ j_ : Int, (IntKind.u64.wrap (x5_2)) = j_ := ⟨_, rfl⟩
         replace H : (if 0 ≤ (ji6) then (if (Go.bits .and .u32 x3_2 1) = ((Go.bits .and .u8 (shr .u8 (rd l0 x4_1) (ji6)) 1) % 4294967296) then (minstrelref06_Sum.l1 k2 l0 (x3_2 / 2) x4_1 (wrap64 (x5_2 + 1))) else (minstrelref06_Sum.l1 k2 l0 (Go.bits .xor .u32 (x3_2 / 2) 3988292384) x4_1 (wrap64 (x5_2 + 1)))) else (none)) = some r := by first | (rw [hji6] at H; exact H) | (simp only [hji6] at H ⊢; exact H)
         by_cases c7 : 0 ≤ (ji6)
         ·rw [if_pos c7] at H
          have c7b0 := eq_true c7
          have c7b1 : decide (0 ≤ (ji6)) = true := decide_eq_true c7
          clear c7
          obtain ⟨ji8, hji8⟩ : ∃ j_ : Int, (shr .u8 (rd l0 x4_1) (ji6)) = j_ := ⟨_, rfl⟩
          replace H : (if (Go.bits .and .u32 x3_2 1) = ((Go.bits .and .u8 (ji8) 1) % 4294967296) then (minstrelref06_Sum.l1 k2 l0 (x3_2 / 2) x4_1 (wrap64 (x5_2 + 1))) else (minstrelref06_Sum.l1 k2 l0 (Go.bits .xor .u32 (x3_2 / 2) 3988292384) x4_1 (wrap64 (x5_2 + 1)))) = some r := by first | (rw [hji8] at H; exact H) | (simp only [hji8] at H ⊢; exact H)
          have hji8_ : ((rd l0 x4_1) / 2 ^ min (ji6).toNat 8) = ji8 := hji8
          have hji8z : (ji6) ≤ 8 → ((rd l0 x4_1) / 2 ^ (ji6).toNat) = ji8 := shr_small hji8
          by_cases c9 : (Go.bits .and .u32 x3_2 1) = ((Go.bits .and .u8 (ji8) 1) % 4294967296)
          ·rw [if_pos c9] at H
           have c9b0 : ((Go.bits .and .u32 x3_2 1) == ((Go.bits .and .u8 (ji8) 1) % 4294967296)) = true := beq_iff_eq.mpr c9
           have c9b1 : ((Go.bits .and .u32 x3_2 1) != ((Go.bits .and .u8 (ji8) 1) % 4294967296)) = false := bne_eq_false_iff_eq.mpr c9
           clear c9
           have H' := am H
           clear H
           have p331 : 0 ≤ (x4_1 : Int) := pD
           have q331 : x4_1 < (l0.length : Int) := pD
           obtain ⟨ad331, e331, hx331_0⟩ := Kd.at_int HR0.out x4_1 p331 q331
           cases e331
           replace p331 := eq_true p331
           replace q331 := eq_true q331
           go_wp2
           go_roundg k2
           case measure => have := HK1.out; have := HK2.out; omega
           case rel => exact ⟨(x3_2 / 2), (wrap64 (x5_2 + 1)), (by first | rfl | (simp; done) | (simp [*]; done)), (by first | rfl | (simp; done) | (simp [*]; done)), H', ⟨by have := HK1.out; have := HK2.out; omega⟩, by repeat (first | exact Drawn0.refl _ | apply Drawn0.step)⟩
          ·rw [if_neg c9] at H
           have c9b0 : ((Go.bits .and .u32 x3_2 1) == ((Go.bits .and .u8 (ji8) 1) % 4294967296)) = false := beq_eq_false_iff_ne.mpr c9
           have c9b1 : ((Go.bits .and .u32 x3_2 1) != ((Go.bits .and .u8 (ji8) 1) % 4294967296)) = true := bne_iff_ne.mpr c9
           have H' := am H
           clear H
           have p331 : 0 ≤ (x4_1 : Int) := pD
           have q331 : x4_1 < (l0.length : Int) := pD
           obtain ⟨ad331, e331, hx331_0⟩ := Kd.at_int HR0.out x4_1 p331 q331
           cases e331
           replace p331 := eq_true p331
           replace q331 := eq_true q331
           go_wp2
           go_roundg k2
           case measure => have := HK1.out; have := HK2.out; omega
           case rel => exact ⟨(Go.bits .xor .u32 (x3_2 / 2) 3988292384), (wrap64 (x5_2 + 1)), (by first | rfl | (simp; done) | (simp [*]; done)), (by first | rfl | (simp; done) | (simp [*]; done)), H', ⟨by have := HK1.out; have := HK2.out; omega⟩, by repeat (first | exact Drawn0.refl _ | apply Drawn0.step)⟩
         ·rw [if_neg c7] at H
          exact absurd H (by simp)
        ·rw [if_neg c5] at H
         exact absurd H (by simp)
       ·rw [if_neg c4] at H
        exact absurd H (by simp)
      ·rw [if_neg c3] at H
       have c3b0 : decide (x5_2 < 8) = false := decide_eq_false c3
       clear c3
       have H' := am H
       clear H
       go_wp2
       go_roundg k2
       case measure => have := HK1.out; have := HK2.out; omega
       case rel => exact ⟨(x3_2), (wrap64 (x4_1 + 1)), (by first | rfl | (simp; done) | (simp [*]; done)), (by first | rfl | (simp; done) | (simp [*]; done)), H', ⟨by have := HK1.out; have := HK2.out; omega⟩, by repeat (first | exact Drawn0.refl _ | apply Drawn0.step)⟩
   ·rw [if_neg c2] at H
    have c2b0 : decide (x4_1 < (l0.length : Int)) = false := decide_eq_false c2
    clear c2
    obtain rfl := Option.some.inj H
    go_wp2
    go_ret
    exact ⟨by first | rfl | (simp; done) | (simp [*]; done), by repeat (first | exact Drawn0.refl _ | apply Drawn0.step)⟩
def minstrelref06_Frame.f (k : Nat) (l0 : List Int) : Option (List Int) := (minstrelref06_Four.f (((l0.length : Int)) % 4294967296)).bind fun t332 => ((some (([] : List Int) : List Int)).bind fun y335 => (if y335.length + t332.length < 140737488355328 then ((some (y335 ++ t332 : List Int)).bind fun y338 => (if y338.length + l0.length < 140737488355328 then ((minstrelref06_Sum.f k (y338 ++ l0)).bind fun t344 => ((minstrelref06_Four.f t344).bind fun t345 => ((some (([] : List Int) : List Int)).bind fun y348 => (if y348.length + t332.length < 140737488355328 then ((some (y348 ++ t332 : List Int)).bind fun y351 => (if y351.length + t345.length < 140737488355328 then ((some (y351 ++ t345 : List Int)).bind fun y354 => (if y354.length + l0.length < 140737488355328 then (some (y354 ++ l0)) else (none))) else (none))) else (none))))) else (none))) else (none)))
theorem minstrelref06_Frame.mono : ∀ a0 k, LeO (minstrelref06_Frame.f k a0) (minstrelref06_Frame.f (k + 1) a0) := by
 intro a0 k
 unfold minstrelref06_Frame.f
 repeat' first
   | (with_reducible exact minstrelref06_Sum.mono _ _)
   | (with_reducible exact LeO.refl _)
   | (with_reducible exact LeO.none _)
   | (with_reducible refine LeO.ite ?_ ?_)
   | (with_reducible refine LeO.bind ?_ (fun _ => ?_))
   | exact minstrelref06_Sum.mono _ _
   | exact LeO.none _
   | refine LeO.ite ?_ ?_
   | refine LeO.bind ?_ (fun _ => ?_)
set_option maxHeartbeats 8000000 in
set_option maxRecDepth 100000 in
theorem minstrelref06_Frame.calls (k : Nat) (A0 : Option Addr) (c0 : Nat) (l0 : List Int) (r : List Int) (w : World) (hr0 : Kd.C (Kd.int .u8) w A0 l0.length l0) (hc0 : l0.length ≤ c0) (h : minstrelref06_Frame.f k l0 = some r) :
  Calls Tryd.prog 35 #[.slice A0 l0.length c0] w fun e w' => ∃ v0_ : Value, e = .returned (v0_) ∧ Kd.R (Kd.int .u8) 5 w' w.heap.size (fun _ => True) v0_ r ∧ Below w.heap.size w w' := by
 have HR0 := am hr0
 have HC0 := am hc0
 clear hr0 hc0
 have HB := am (Below.refl w.heap.size w)
 have H : ((minstrelref06_Four.f (((l0.length : Int)) % 4294967296)).bind fun t332 => ((some (([] : List Int) : List Int)).bind fun y335 => (if y335.length + t332.length < 140737488355328 then ((some (y335 ++ t332 : List Int)).bind fun y338 => (if y338.length + l0.length < 140737488355328 then ((minstrelref06_Sum.f k (y338 ++ l0)).bind fun t344 => ((minstrelref06_Four.f t344).bind fun t345 => ((some (([] : List Int) : List Int)).bind fun y348 => (if y348.length + t332.length < 140737488355328 then ((some (y348 ++ t332 : List Int)).bind fun y351 => (if y351.length + t345.length < 140737488355328 then ((some (y351 ++ t345 : List Int)).bind fun y354 => (if y354.length + l0.length < 140737488355328 then (some (y354 ++ l0)) else (none))) else (none))) else (none))))) else (none))) else (none)))) = some r := h
 clear h
 replace H := Option.bind_eq_some_iff.mp H
 obtain ⟨t332, A20, H⟩ := H
 try dsimp only at H
 have A2 := am A20
 clear A20
 obtain ⟨y335, hy335⟩ : ∃ y_ : List Int, y_ = (([] : List Int)) := ⟨_, rfl⟩
 replace H : (if y335.length + t332.length < 140737488355328 then ((some (y335 ++ t332 : List Int)).bind fun y338 => (if y338.length + l0.length < 140737488355328 then ((minstrelref06_Sum.f k (y338 ++ l0)).bind fun t344 => ((minstrelref06_Four.f t344).bind fun t345 => ((some (([] : List Int) : List Int)).bind fun y348 => (if y348.length + t332.length < 140737488355328 then ((some (y348 ++ t332 : List Int)).bind fun y351 => (if y351.length + t345.length < 140737488355328 then ((some (y351 ++ t345 : List Int)).bind fun y354 => (if y354.length + l0.length < 140737488355328 then (some (y354 ++ l0)) else (none))) else (none))) else (none))))) else (none))) else (none)) = some r := by first | (rw [hy335]; with_reducible exact H) | (have H2_ := (Option.bind_some _ _).symm.trans H; rw [hy335]; with_reducible exact H2_) | (have H2_ := (Option.bind_some _ _).symm.trans H; with_reducible exact H2_) | with_reducible exact H | (rw [hy335]; exact H) | exact H
 have Ny335 := am hy335
 clear hy335
 by_cases c3 : y335.length + t332.length < 140737488355328
 ·rw [if_pos c3] at H
  have LMc3 := am c3
  clear c3
  obtain ⟨y338, hy338⟩ : ∃ y_ : List Int, y_ = (y335 ++ t332) := ⟨_, rfl⟩
  replace H : (if y338.length + l0.length < 140737488355328 then ((minstrelref06_Sum.f k (y338 ++ l0)).bind fun t344 => ((minstrelref06_Four.f t344).bind fun t345 => ((some (([] : List Int) : List Int)).bind fun y348 => (if y348.length + t332.length < 140737488355328 then ((some (y348 ++ t332 : List Int)).bind fun y351 => (if y351.length + t345.length < 140737488355328 then ((some (y351 ++ t345 : List Int)).bind fun y354 => (if y354.length + l0.length < 140737488355328 then (some (y354 ++ l0)) else (none))) else (none))) else (none))))) else (none)) = some r := by first | (rw [hy338]; with_reducible exact H) | (have H2_ := (Option.bind_some _ _).symm.trans H; rw [hy338]; with_reducible exact H2_) | (have H2_ := (Option.bind_some _ _).symm.trans H; with_reducible exact H2_) | with_reducible exact H | (rw [hy338]; exact H) | exact H
  have Ny338 := am hy338
  clear hy338
  by_cases c4 : y338.length + l0.length < 140737488355328
  ·rw [if_pos c4] at H
   have LMc4 := am c4
   clear c4
   obtain ⟨y341, hy341⟩ : ∃ y_ : List Int, y_ = (y338 ++ l0) := ⟨_, rfl⟩
   replace H : ((minstrelref06_Sum.f k y341).bind fun t344 => ((minstrelref06_Four.f t344).bind fun t345 => ((some (([] : List Int) : List Int)).bind fun y348 => (if y348.length + t332.length < 140737488355328 then ((some (y348 ++ t332 : List Int)).bind fun y351 => (if y351.length + t345.length < 140737488355328 then ((some (y351 ++ t345 : List Int)).bind fun y354 => (if y354.length + l0.length < 140737488355328 then (some (y354 ++ l0)) else (none))) else (none))) else (none))))) = some r := by first | (rw [hy341]; with_reducible exact H) | (have H2_ := (Option.bind_some _ _).symm.trans H; rw [hy341]; with_reducible exact H2_) | (have H2_ := (Option.bind_some _ _).symm.trans H; with_reducible exact H2_) | with_reducible exact H | (rw [hy341]; exact H) | exact H
   have Ny341 := am hy341
   clear hy341
   replace H := Option.bind_eq_some_iff.mp H
   obtain ⟨t344, A50, H⟩ := H
   try dsimp only at H
   have A5 := am A50
   clear A50
   replace H := Option.bind_eq_some_iff.mp H
   obtain ⟨t345, A60, H⟩ := H
   try dsimp only at H
   have A6 := am A60
   clear A60
   obtain ⟨y348, hy348⟩ : ∃ y_ : List Int, y_ = (([] : List Int)) := ⟨_, rfl⟩
   replace H : (if y348.length + t332.length < 140737488355328 then ((some (y348 ++ t332 : List Int)).bind fun y351 => (if y351.length + t345.length < 140737488355328 then ((some (y351 ++ t345 : List Int)).bind fun y354 => (if y354.length + l0.length < 140737488355328 then (some (y354 ++ l0)) else (none))) else (none))) else (none)) = some r := by first | (rw [hy348]; with_reducible exact H) | (have H2_ := (Option.bind_some _ _).symm.trans H; rw [hy348]; with_reducible exact H2_) | (have H2_ := (Option.bind_some _ _).symm.trans H; with_reducible exact H2_) | with_reducible exact H | (rw [hy348]; exact H) | exact H
   have Ny348 := am hy348
   clear hy348
   by_cases c7 : y348.length + t332.length < 140737488355328
   ·rw [if_pos c7] at H
    have LMc7 := am c7
    clear c7
    obtain ⟨y351, hy351⟩ : ∃ y_ : List Int, y_ = (y348 ++ t332) := ⟨_, rfl⟩
    replace H : (if y351.length + t345.length < 140737488355328 then ((some (y351 ++ t345 : List Int)).bind fun y354 => (if y354.length + l0.length < 140737488355328 then (some (y354 ++ l0)) else (none))) else (none)) = some r := by first | (rw [hy351]; with_reducible exact H) | (have H2_ := (Option.bind_some _ _).symm.trans H; rw [hy351]; with_reducible exact H2_) | (have H2_ := (Option.bind_some _ _).symm.trans H; with_reducible exact H2_) | with_reducible exact H | (rw [hy351]; exact H) | exact H
    have Ny351 := am hy351
    clear hy351
    by_cases c8 : y351.length + t345.length < 140737488355328
    ·rw [if_pos c8] at H
     have LMc8 := am c8
     clear c8
     obtain ⟨y354, hy354⟩ : ∃ y_ : List Int, y_ = (y351 ++ t345) := ⟨_, rfl⟩
     replace H : (if y354.length + l0.length < 140737488355328 then (some (y354 ++ l0)) else (none)) = some r := by first | (rw [hy354]; with_reducible exact H) | (have H2_ := (Option.bind_some _ _).symm.trans H; rw [hy354]; with_reducible exact H2_) | (have H2_ := (Option.bind_some _ _).symm.trans H; with_reducible exact H2_) | with_reducible exact H | (rw [hy354]; exact H) | exact H
     have Ny354 := am hy354
     clear hy354
     by_cases c9 : y354.length + l0.length < 140737488355328
     ·rw [if_pos c9] at H
      have LMc9 := am c9
      clear c9
      obtain ⟨y357, hy357⟩ : ∃ y_ : List Int, y_ = (y354 ++ l0) := ⟨_, rfl⟩
      replace H : (some y357) = some r := by first | (rw [hy357]; with_reducible exact H) | (have H2_ := (Option.bind_some _ _).symm.trans H; rw [hy357]; with_reducible exact H2_) | (have H2_ := (Option.bind_some _ _).symm.trans H; with_reducible exact H2_) | with_reducible exact H | (rw [hy357]; exact H) | exact H
      have Ny357 := am hy357
      clear hy357
      obtain rfl := Option.some.inj H
      go_enter Tryd.func35, Tryd.ntmps35
      go_wp2_with (first | ((with_reducible refine gate_callee (f := 52) rfl ?_); refine goesL_ (some 8) rfl rfl Tryd.func52 (by kernel_rfl) rfl #[.int .u32 (((l0.length : Int)) % 4294967296)] rfl pM ?_; (with_reducible refine (minstrelref06_Four.calls (((l0.length : Int)) % 4294967296) t332 _ A2.out).mono ?_); rintro e w10 ⟨v333, rfl, ho0, hb⟩; refine ⟨_, rfl, ?_⟩; have HO334 := am (Kd.R_lower ho0 (below_size pB)); replace HB := am (below_step pB hb); (try clear hb); (try clear hb2); (try clear hk); (try clear hi); (try clear ho0)) | ((with_reducible refine gate_dst (N := 9) rfl ?_); refine Kd.R_lit (Kd.int .u8) _ 5 ?hg (N := 9) ?hd (xs := ([] : List Int)) (inner := []) (ok := fun _ => True) (okp := fun _ => True) ?hr ?hp (fun _ hk => hk) trivial (Below.refl _ _) (Nat.le_refl _) (by simp) ?_; (case hd => rfl); (case hg => rfl); (case hr => first | (go_simp; done) | (go_simp; rfl)); (case hp => exact (Reps.none _ _)); intro v336 w11 ho12 hb hg_ hnew_; clear hg_ hnew_; (first | rw [← Ny335.out] at ho12 | (simp only [Int.reduceToNat] at ho12; rw [← Ny335.out] at ho12)); have HO337 := am (Kd.R_lower (Kd.R_new' ho12 (Kd.R_lt (pR HO334.out))) (below_size pB)); replace HO334 := am (Kd.R_elder' (pR HO334.out) (Kd.R_base ho12) hb); replace HB := am (below_step pB hb); clear hb ho12; obtain ⟨Ao14, co14, eo14⟩ := Kd.R_slice HO334.out; subst eo14) | ((with_reducible refine gate_builtin (b := .append) (xs := #[.tmp 9, .tmp 10]) rfl ?_); at_builtin; refine Kd.R_append_rows (Kd.int .u8) (w0 := w) w.heap.size rfl (.tmp 9) (.tmp 10) 31 5 (.int .u8 0) 1 rfl Tryd.underlying31 info5 rfl (by decide) (by omega) v336 y335 t332 _ _ _ (fun k_ => some k_ ≠ (.slice Ao14 t332.length co14 : Value).ownBlock) (fun _ => False) rfl rfl ?aO ?aR (fun _ _ h => h) (fun _ h => h.elim) ?aF ?aB ?aS ?aL ?_; (case aR => repeat (first | exact (Kd.R_reads' HO334.out).2.2 | (with_reducible refine Kd.C_alloc ?_ _) | (with_reducible refine Kd.C_drewN ?_ _) | (with_reducible refine Kd.C_drew ?_))); (case aB => exact pB); (case aF => exact (fun k_ hk => Kd.fresh' (Kd.R_lt (pR HO334.out)) k_ hk)); (case aO => exact (by (with_reducible repeat (first | apply Kd.R_alloc | apply Kd.R_drewN | apply Kd.R_drew)); exact Kd.R_mono HO337.out (fun _ hk => hk.2))); (case aS => exact (below_size pB)); (case aL => have := LMc3.out; omega); intro v339 w13 ho hb hg hat; rw [← Ny338.out] at ho; replace HO334 := am (Kd.R_after (ok := (fun _ => True)) (pR HO334.out) hg hat); replace HB := am (hb); have HO340 := am (ho); clear HO337; clear ho hb hg hat) | ((with_reducible refine gate_builtin (b := .append) (xs := #[.tmp 11, .tmp 12]) rfl ?_); at_builtin; refine Kd.R_append_rows (Kd.int .u8) (w0 := w) w.heap.size rfl (.tmp 11) (.tmp 12) 31 5 (.int .u8 0) 1 rfl Tryd.underlying31 info5 rfl (by decide) (by omega) v339 y338 l0 _ _ _ (fun k_ => some k_ ≠ (.slice Ao14 t332.length co14 : Value).ownBlock) (fun _ => False) rfl rfl ?aO ?aR (fun _ _ h => h) (fun _ h => h.elim) ?aF ?aB ?aS ?aL ?_; (case aR => exact pC (Kd.C_below HR0.out HB.out)); (case aB => exact pB); (case aF => exact (fun k_ hk => Kd.fresh' (Kd.R_lt (pR HO334.out)) k_ hk)); (case aO => exact (pR HO340.out)); (case aS => exact (below_size pB)); (case aL => have := LMc4.out; omega); intro v342 w15 ho hb hg hat; rw [← Ny341.out] at ho; replace HO334 := am (Kd.R_after (ok := (fun _ => True)) (pR HO334.out) hg hat); replace HB := am (hb); have HO343 := am (ho); clear HO340; clear ho hb hg hat; obtain ⟨Ao16, co16, eo16⟩ := Kd.R_slice HO343.out; subst eo16) | ((with_reducible refine gate_callee (f := 53) rfl ?_); refine goesL_ (some 14) rfl rfl Tryd.func53 (by kernel_rfl) rfl #[.slice Ao16 y341.length co16] rfl pM ?_; (with_reducible refine (minstrelref06_Sum.calls k _ _ y341 t344 _ ?side1 ?side2 A5.out).mono ?_); (case side1 => repeat (first | exact (Kd.R_reads' HO343.out).2.2 | (with_reducible refine Kd.C_alloc ?_ _) | (with_reducible refine Kd.C_drewN ?_ _) | (with_reducible refine Kd.C_drew ?_))); (case side2 => exact (Kd.R_reads' HO343.out).2.1); rintro e w' ⟨rfl, ⟨nd, rfl⟩⟩; refine ⟨_, rfl, ?_⟩) | ((with_reducible refine gate_callee (f := 52) rfl ?_); refine goesL_ (some 15) rfl rfl Tryd.func52 (by kernel_rfl) rfl #[.int .u32 t344] rfl pM ?_; (with_reducible refine (minstrelref06_Four.calls t344 t345 _ A6.out).mono ?_); rintro e w17 ⟨v346, rfl, ho0, hb⟩; refine ⟨_, rfl, ?_⟩; have HO347 := am (Kd.R_lower (Kd.R_new' (Kd.R_new' ho0 (Kd.R_lt (pR HO334.out))) (Kd.R_lt (pR HO343.out))) (below_size pB)); replace HO334 := am (Kd.R_elder' (pR HO334.out) (Kd.R_base ho0) hb); replace HO343 := am (Kd.R_elder' (pR HO343.out) (Kd.R_base ho0) hb); replace HB := am (below_step pB hb); (try clear hb); (try clear hb2); (try clear hk); (try clear hi); (try clear ho0)) | ((with_reducible refine gate_dst (N := 16) rfl ?_); refine Kd.R_lit (Kd.int .u8) _ 5 ?hg (N := 16) ?hd (xs := ([] : List Int)) (inner := []) (ok := fun _ => True) (okp := fun _ => True) ?hr ?hp (fun _ hk => hk) trivial (Below.refl _ _) (Nat.le_refl _) (by simp) ?_; (case hd => rfl); (case hg => rfl); (case hr => first | (go_simp; done) | (go_simp; rfl)); (case hp => exact (Reps.none _ _)); intro v349 w18 ho19 hb hg_ hnew_; clear hg_ hnew_; (first | rw [← Ny348.out] at ho19 | (simp only [Int.reduceToNat] at ho19; rw [← Ny348.out] at ho19)); have HO350 := am (Kd.R_lower (Kd.R_new' (Kd.R_new' (Kd.R_new' ho19 (Kd.R_lt (pR HO334.out))) (Kd.R_lt (pR HO343.out))) (Kd.R_lt (pR HO347.out))) (below_size pB)); replace HO334 := am (Kd.R_elder' (pR HO334.out) (Kd.R_base ho19) hb); replace HO343 := am (Kd.R_elder' (pR HO343.out) (Kd.R_base ho19) hb); replace HO347 := am (Kd.R_elder' (pR HO347.out) (Kd.R_base ho19) hb); replace HB := am (below_step pB hb); clear hb ho19) | ((with_reducible refine gate_builtin (b := .append) (xs := #[.tmp 16, .tmp 17]) rfl ?_); at_builtin; refine Kd.R_append_rows (Kd.int .u8) (w0 := w) w.heap.size rfl (.tmp 16) (.tmp 17) 31 5 (.int .u8 0) 1 rfl Tryd.underlying31 info5 rfl (by decide) (by omega) v349 y348 t332 _ _ _ (fun k_ => some k_ ≠ (.slice Ao14 t332.length co14 : Value).ownBlock ∧ some k_ ≠ (.slice Ao16 y341.length co16 : Value).ownBlock ∧ some k_ ≠ (v346 : Value).ownBlock) (fun _ => False) rfl rfl ?aO ?aR (fun _ _ h => h) (fun _ h => h.elim) ?aF ?aB ?aS ?aL ?_; (case aR => repeat (first | exact (Kd.R_reads' HO334.out).2.2 | (with_reducible refine Kd.C_alloc ?_ _) | (with_reducible refine Kd.C_drewN ?_ _) | (with_reducible refine Kd.C_drew ?_))); (case aB => exact pB); (case aF => exact (fun k_ hk => ⟨Kd.fresh' (Kd.R_lt (pR HO334.out)) k_ hk, Kd.fresh' (Kd.R_lt (pR HO343.out)) k_ hk, Kd.fresh' (Kd.R_lt (pR HO347.out)) k_ hk⟩)); (case aO => exact (by (with_reducible repeat (first | apply Kd.R_alloc | apply Kd.R_drewN | apply Kd.R_drew)); exact Kd.R_mono HO350.out (fun _ hk => ⟨hk.1.1.2, ⟨hk.1.2, hk.2⟩⟩))); (case aS => exact (below_size pB)); (case aL => have := LMc7.out; omega); intro v352 w20 ho hb hg hat; rw [← Ny351.out] at ho; replace HO334 := am (Kd.R_after (ok := (fun k_ => some k_ ≠ (.slice Ao16 y341.length co16 : Value).ownBlock ∧ some k_ ≠ (v346 : Value).ownBlock)) (by (with_reducible repeat (first | apply Kd.R_alloc | apply Kd.R_drewN | apply Kd.R_drew)); exact Kd.R_mono HO334.out (fun _ hk => ⟨⟨hk.1.1.2, hk.1.2⟩, hk.2⟩)) hg hat); replace HO343 := am (Kd.R_after (ok := (fun k_ => some k_ ≠ (.slice Ao14 t332.length co14 : Value).ownBlock ∧ some k_ ≠ (v346 : Value).ownBlock)) (pR HO343.out) hg hat); replace HO347 := am (Kd.R_after (ok := (fun k_ => some k_ ≠ (.slice Ao14 t332.length co14 : Value).ownBlock ∧ some k_ ≠ (.slice Ao16 y341.length co16 : Value).ownBlock)) (by (with_reducible repeat (first | apply Kd.R_alloc | apply Kd.R_drewN | apply Kd.R_drew)); exact Kd.R_mono HO347.out (fun _ hk => ⟨⟨hk.1.1.2, hk.1.2⟩, hk.2⟩)) hg hat); replace HB := am (hb); have HO353 := am (ho); clear HO350; clear ho hb hg hat; obtain ⟨Ao22, co22, eo22⟩ := Kd.R_slice HO347.out; subst eo22) | ((with_reducible refine gate_builtin (b := .append) (xs := #[.tmp 18, .tmp 19]) rfl ?_); at_builtin; refine Kd.R_append_rows (Kd.int .u8) (w0 := w) w.heap.size rfl (.tmp 18) (.tmp 19) 31 5 (.int .u8 0) 1 rfl Tryd.underlying31 info5 rfl (by decide) (by omega) v352 y351 t345 _ _ _ (fun k_ => some k_ ≠ (.slice Ao14 t332.length co14 : Value).ownBlock ∧ some k_ ≠ (.slice Ao16 y341.length co16 : Value).ownBlock ∧ some k_ ≠ (.slice Ao22 t345.length co22 : Value).ownBlock) (fun _ => False) rfl rfl ?aO ?aR (fun _ _ h => h) (fun _ h => h.elim) ?aF ?aB ?aS ?aL ?_; (case aR => repeat (first | exact (Kd.R_reads' HO347.out).2.2 | (with_reducible refine Kd.C_alloc ?_ _) | (with_reducible refine Kd.C_drewN ?_ _) | (with_reducible refine Kd.C_drew ?_))); (case aB => exact pB); (case aF => exact (fun k_ hk => ⟨Kd.fresh' (Kd.R_lt (pR HO334.out)) k_ hk, Kd.fresh' (Kd.R_lt (pR HO343.out)) k_ hk, Kd.fresh' (Kd.R_lt (pR HO347.out)) k_ hk⟩)); (case aO => exact (pR HO353.out)); (case aS => exact (below_size pB)); (case aL => have := LMc8.out; omega); intro v355 w21 ho hb hg hat; rw [← Ny354.out] at ho; replace HO334 := am (Kd.R_after (ok := (fun k_ => some k_ ≠ (.slice Ao16 y341.length co16 : Value).ownBlock ∧ some k_ ≠ (.slice Ao22 t345.length co22 : Value).ownBlock)) (pR HO334.out) hg hat); replace HO343 := am (Kd.R_after (ok := (fun k_ => some k_ ≠ (.slice Ao14 t332.length co14 : Value).ownBlock ∧ some k_ ≠ (.slice Ao22 t345.length co22 : Value).ownBlock)) (pR HO343.out) hg hat); replace HO347 := am (Kd.R_after (ok := (fun k_ => some k_ ≠ (.slice Ao14 t332.length co14 : Value).ownBlock ∧ some k_ ≠ (.slice Ao16 y341.length co16 : Value).ownBlock)) (pR HO347.out) hg hat); replace HB := am (hb); have HO356 := am (ho); clear HO353; clear ho hb hg hat) | ((with_reducible refine gate_builtin (b := .append) (xs := #[.tmp 20, .tmp 21]) rfl ?_); at_builtin; refine Kd.R_append_rows (Kd.int .u8) (w0 := w) w.heap.size rfl (.tmp 20) (.tmp 21) 31 5 (.int .u8 0) 1 rfl Tryd.underlying31 info5 rfl (by decide) (by omega) v355 y354 l0 _ _ _ (fun k_ => some k_ ≠ (.slice Ao14 t332.length co14 : Value).ownBlock ∧ some k_ ≠ (.slice Ao16 y341.length co16 : Value).ownBlock ∧ some k_ ≠ (.slice Ao22 t345.length co22 : Value).ownBlock) (fun _ => False) rfl rfl ?aO ?aR (fun _ _ h => h) (fun _ h => h.elim) ?aF ?aB ?aS ?aL ?_; (case aR => exact pC (Kd.C_below HR0.out HB.out)); (case aB => exact pB); (case aF => exact (fun k_ hk => ⟨Kd.fresh' (Kd.R_lt (pR HO334.out)) k_ hk, Kd.fresh' (Kd.R_lt (pR HO343.out)) k_ hk, Kd.fresh' (Kd.R_lt (pR HO347.out)) k_ hk⟩)); (case aO => exact (pR HO356.out)); (case aS => exact (below_size pB)); (case aL => have := LMc9.out; omega); intro v358 w23 ho hb hg hat; rw [← Ny357.out] at ho; replace HO334 := am (Kd.R_after (ok := (fun k_ => some k_ ≠ (.slice Ao16 y341.length co16 : Value).ownBlock ∧ some k_ ≠ (.slice Ao22 t345.length co22 : Value).ownBlock)) (pR HO334.out) hg hat); replace HO343 := am (Kd.R_after (ok := (fun k_ => some k_ ≠ (.slice Ao14 t332.length co14 : Value).ownBlock ∧ some k_ ≠ (.slice Ao22 t345.length co22 : Value).ownBlock)) (pR HO343.out) hg hat); replace HO347 := am (Kd.R_after (ok := (fun k_ => some k_ ≠ (.slice Ao14 t332.length co14 : Value).ownBlock ∧ some k_ ≠ (.slice Ao16 y341.length co16 : Value).ownBlock)) (pR HO347.out) hg hat); replace HB := am (hb); have HO359 := am (ho); clear HO356; clear ho hb hg hat))
      go_ret
      exact ⟨_, pE, by (with_reducible repeat (first | apply Kd.R_alloc | apply Kd.R_drewN | apply Kd.R_drew)); exact Kd.R_mono HO359.out (fun _ hk => trivial), pB⟩
     ·rw [if_neg c9] at H
      exact absurd H (by simp)
    ·rw [if_neg c8] at H
     exact absurd H (by simp)
   ·rw [if_neg c7] at H
    exact absurd H (by simp)
  ·rw [if_neg c4] at H
   exact absurd H (by simp)
 ·rw [if_neg c3] at H
  exact absurd H (by simp)
end Go.Proofs.YtlkaffbgekbcfaaDoor.Pr
end
