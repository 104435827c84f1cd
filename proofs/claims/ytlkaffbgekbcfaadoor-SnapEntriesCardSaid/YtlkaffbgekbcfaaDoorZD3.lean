/- A part of the proof of the law that RowSnapEntries shows: lemmas, and contracts of the calls that it reaches. -/
import Derived.Test.YtlkaffbgekbcfaaDoorProg
import Derived.Below
import Derived.Deep.Draws
import Derived.Deep.AppendLies
import Derived.Maps.AppendAt
import Derived.OwnWalk
import Derived.Laws.BytesArg
import Derived.Laws.MakeOwn
import Derived.Laws.OwnMore
import Derived.Deep.OwnRows
import Derived.Tactics
import Derived.Lib.ConvBytes
import Derived.Laws.Slices
import Derived.WalkKit
import Derived.KernelRfl
import Derived.RowKit3
import Derived.Deep.LoopGhost
import Derived.Deep.QuietTactic
import Derived.BigQuiet
import Derived.WideLaws
import Derived.Deep.DeepCutAuto
import Derived.Deep.CutBlock
import Derived.Deep.RegionHeld3
import Derived.Laws.Rows
import Derived.Lib.AppendStr
import Derived.ArgAppend
import Derived.Laws.IdiomCopy
import Derived.OrdersHeld
import Derived.Laws.BitsLemmas
import Derived.RowKit
import Derived.Test.YtlkaffbgekbcfaaDoorZD0
import Derived.Test.YtlkaffbgekbcfaaDoorZD1
import Derived.Test.YtlkaffbgekbcfaaDoorZD2
set_option linter.unusedVariables false
set_option linter.unusedSimpArgs false
section
namespace Go.Proofs.YtlkaffbgekbcfaaDoor.Pr
open Go.RowKit Go.Proofs.YtlkaffbgekbcfaaDoorW.PrintWords Go.Proofs.YtlkaffbgekbcfaaDoorW.PrintLast Go.Proofs.YtlkaffbgekbcfaaDoorW.PrintMore
attribute [local go_sem] max2_int min2_int max_two min_two max_three min_three max_four min_four
mutual
def minstrelref07_Same.l0 : Nat → Int → Int → Int → ByteArray → List (S26) → Int → Int → ByteArray → List (S26) → Option (Bool)
 | 0, _, _, _, _, _, _, _, _, _ => none
 | k + 1, x5, x397000, x397001, x397002, x397003, x398000, x398001, x398002, x398003 => if x5 < (x397003.length : Int) then (if 0 ≤ x5 then (if x5 < (x398003.length : Int) then ((minstrelref07_Same.f k ((rd_T26 x397003 x5).f0) ((rd_T26 x397003 x5).f1) ((rd_T26 x397003 x5).f2) ((rd_T26 x397003 x5).f3) ((rd_T26 x398003 x5).f0) ((rd_T26 x398003 x5).f1) ((rd_T26 x398003 x5).f2) ((rd_T26 x398003 x5).f3)).bind fun t400 => (if t400 = true then (minstrelref07_Same.l0 k (wrap64 (x5 + 1)) x397000 x397001 x397002 x397003 x398000 x398001 x398002 x398003) else (some false))) else (none)) else (none)) else (some true)
def minstrelref07_Same.f : Nat → Int → Int → ByteArray → List (S26) → Int → Int → ByteArray → List (S26) → Option (Bool)
 | 0, _, _, _, _, _, _, _, _ => none
 | k + 1, a0_0, a0_1, a0_2, l0_3, a1_0, a1_1, a1_2, l1_3 => if a0_0 = a1_0 then (if a0_0 = 0 then (some (a0_1 == a1_1)) else (if a0_0 = 1 then (some (a0_2.toList == a1_2.toList)) else (if a0_0 = 2 then (if (l0_3.length : Int) = (l1_3.length : Int) then (minstrelref07_Same.l0 k 0 a0_0 a0_1 a0_2 l0_3 a1_0 a1_1 a1_2 l1_3) else (some false)) else (some true)))) else (some false)
end
def minstrelref07_Same.T13 : Bool × List (List Nat × List Nat) := (true, [([], []), ([0], [0]), ([], []), ([1, 2], [1, 2]), ([3], [3]), ([], []), ([5], [5]), ([], []), ([6, 7], [6, 7]), ([8], [8]), ([4, 9], [4, 9]), ([10], [10])])
def minstrelref07_Same.B13 : List Nat := [0, 1, 0, 7, 15, 0, 32, 0, 224, 480, 1023, 2047]
theorem minstrelref07_Same.tab13 : rtab .any (opsOf Tryd.f19 13) = minstrelref07_Same.T13 := by kernel_rfl
theorem minstrelref07_Same.bits13 : waitsOk minstrelref07_Same.T13.2 minstrelref07_Same.B13 = true := by kernel_rfl
set_option maxHeartbeats 8000000 in
set_option maxRecDepth 100000 in
theorem minstrelref07_Same.calls (k : Nat) : ∀ (a0_0 : Int) (a0_1 : Int) (a0_2 : ByteArray) (A0_3 : Option Addr) (c0_3 : Nat) (l0_3 : List (S26)) (a1_0 : Int) (a1_1 : Int) (a1_2 : ByteArray) (A1_3 : Option Addr) (c1_3 : Nat) (l1_3 : List (S26)) (r : Bool) (w : World) (hr0_3 : Kd.C k26 w A0_3 l0_3.length l0_3) (hc0_3 : l0_3.length ≤ c0_3) (hr1_3 : Kd.C k26 w A1_3 l1_3.length l1_3) (hc1_3 : l1_3.length ≤ c1_3) (h : minstrelref07_Same.f k a0_0 a0_1 a0_2 l0_3 a1_0 a1_1 a1_2 l1_3 = some r),
  Calls Tryd.prog 19 #[.agg #[.int .i64 a0_0, .int .u64 a0_1, .string a0_2, .slice A0_3 l0_3.length c0_3], .agg #[.int .i64 a1_0, .int .u64 a1_1, .string a1_2, .slice A1_3 l1_3.length c1_3]] w fun e w' => e = .returned (.bool r) ∧ Below w.heap.size w w' := by
 induction k using Nat.strongRecOn with
 | _ k ih =>
 intro a0_0 a0_1 a0_2 A0_3 c0_3 l0_3 a1_0 a1_1 a1_2 A1_3 c1_3 l1_3 r w hr0_3 hc0_3 hr1_3 hc1_3 h
 cases k with
 | zero => exact absurd h (by simp [minstrelref07_Same.f])
 | succ k =>
 simp only [minstrelref07_Same.f] at h
 have hu26 := Tryd.underlying26
 have HR0_3 := am hr0_3
 have HC0_3 := am hc0_3
 clear hr0_3 hc0_3
 have HR1_3 := am hr1_3
 have HC1_3 := am hc1_3
 clear hr1_3 hc1_3
 have HB := am (Below.refl w.heap.size w)
 have H : (if a0_0 = a1_0 then (if a0_0 = 0 then (some (a0_1 == a1_1)) else (if a0_0 = 1 then (some (a0_2.toList == a1_2.toList)) else (if a0_0 = 2 then (if (l0_3.length : Int) = (l1_3.length : Int) then (minstrelref07_Same.l0 k 0 a0_0 a0_1 a0_2 l0_3 a1_0 a1_1 a1_2 l1_3) else (some false)) else (some true)))) else (some false)) = some r := h
 clear h
 by_cases c3 : a0_0 = a1_0
 ·rw [if_pos c3] at H
  have c3b0 : (a0_0 == a1_0) = true := beq_iff_eq.mpr c3
  have c3b1 : (a0_0 != a1_0) = false := bne_eq_false_iff_eq.mpr c3
  clear c3
  by_cases c4 : a0_0 = 0
  ·rw [if_pos c4] at H
   have c4b0 : (a0_0 == 0) = true := beq_iff_eq.mpr c4
   have c4b1 : (a0_0 != 0) = false := bne_eq_false_iff_eq.mpr c4
   clear c4
   obtain rfl := Option.some.inj H
   go_enter Tryd.func19, Tryd.ntmps19
   go_wp2_with (first | ((with_reducible refine gate_dst (N := 2) rfl ?_); refine box_event ?hg (N := 2) ?hd (cs := #[.int .i64 a0_0, .int .u64 a0_1, .string a0_2, .slice A0_3 l0_3.length c0_3]) (t := 26) ?hr ?_; (case hd => rfl); (case hg => rfl); (case hr => first | (go_simp; done) | (go_simp; rfl)); intro gb396 hg w5 hbox hb; have BK396 := am (hbox); have GW396 := am ((by rw [hg]; exact (below_size pB) : w.heap.size ≤ gb396)); have GE396 := am ((by rw [hg]; exact (below_size pB) : w.heap.size ≤ gb396)); replace HB := am (below_step pB hb); clear hb hbox hg) | ((with_reducible refine gate_dst (N := 3) rfl ?_); refine box_event ?hg (N := 3) ?hd (cs := #[.int .i64 a1_0, .int .u64 a1_1, .string a1_2, .slice A1_3 l1_3.length c1_3]) (t := 26) ?hr ?_; (case hd => rfl); (case hg => rfl); (case hr => first | (go_simp; done) | (go_simp; rfl)); intro gb397 hg w6 hbox hb; have BK397 := am (hbox); have GW397 := am ((by rw [hg]; exact (below_size pB) : w.heap.size ≤ gb397)); have GE397 := am ((by rw [hg]; exact (below_size pB) : w.heap.size ≤ gb397)); have NB396_397 := am ((by rw [hg]; exact Nat.ne_of_lt (pkl BK396.out) : gb396 ≠ gb397)); have NB397_396 := am ((by rw [hg]; exact Nat.ne_of_gt (pkl BK396.out) : gb397 ≠ gb396)); replace BK396 := am (pkb BK396.out hb); replace HB := am (below_step pB hb); clear hb hbox hg; have hnb7 := NB396_397.out; have hnc7 := NB397_396.out; have q8 := cf4 BK396.out; have q9 := cf4 BK397.out))
   go_ret
   exact ⟨pE, pB⟩
  ·rw [if_neg c4] at H
   have c4b0 : (a0_0 == 0) = false := beq_eq_false_iff_ne.mpr c4
   have c4b1 : (a0_0 != 0) = true := bne_iff_ne.mpr c4
   by_cases c10 : a0_0 = 1
   ·rw [if_pos c10] at H
    have c10b0 : (a0_0 == 1) = true := beq_iff_eq.mpr c10
    have c10b1 : (a0_0 != 1) = false := bne_eq_false_iff_eq.mpr c10
    clear c10
    obtain rfl := Option.some.inj H
    go_enter Tryd.func19, Tryd.ntmps19
    go_wp2_with (first | ((with_reducible refine gate_dst (N := 2) rfl ?_); refine box_event ?hg (N := 2) ?hd (cs := #[.int .i64 a0_0, .int .u64 a0_1, .string a0_2, .slice A0_3 l0_3.length c0_3]) (t := 26) ?hr ?_; (case hd => rfl); (case hg => rfl); (case hr => first | (go_simp; done) | (go_simp; rfl)); intro gb396 hg w11 hbox hb; have BK396 := am (hbox); have GW396 := am ((by rw [hg]; exact (below_size pB) : w.heap.size ≤ gb396)); have GE396 := am ((by rw [hg]; exact (below_size pB) : w.heap.size ≤ gb396)); replace HB := am (below_step pB hb); clear hb hbox hg) | ((with_reducible refine gate_dst (N := 3) rfl ?_); refine box_event ?hg (N := 3) ?hd (cs := #[.int .i64 a1_0, .int .u64 a1_1, .string a1_2, .slice A1_3 l1_3.length c1_3]) (t := 26) ?hr ?_; (case hd => rfl); (case hg => rfl); (case hr => first | (go_simp; done) | (go_simp; rfl)); intro gb397 hg w12 hbox hb; have BK397 := am (hbox); have GW397 := am ((by rw [hg]; exact (below_size pB) : w.heap.size ≤ gb397)); have GE397 := am ((by rw [hg]; exact (below_size pB) : w.heap.size ≤ gb397)); have NB396_397 := am ((by rw [hg]; exact Nat.ne_of_lt (pkl BK396.out) : gb396 ≠ gb397)); have NB397_396 := am ((by rw [hg]; exact Nat.ne_of_gt (pkl BK396.out) : gb397 ≠ gb396)); replace BK396 := am (pkb BK396.out hb); replace HB := am (below_step pB hb); clear hb hbox hg; have hnb13 := NB396_397.out; have hnc13 := NB397_396.out; have q14 := cf4 BK396.out; have q15 := cf4 BK397.out))
    go_ret
    exact ⟨pE, pB⟩
   ·rw [if_neg c10] at H
    have c10b0 : (a0_0 == 1) = false := beq_eq_false_iff_ne.mpr c10
    have c10b1 : (a0_0 != 1) = true := bne_iff_ne.mpr c10
    by_cases c16 : a0_0 = 2
    ·rw [if_pos c16] at H
     have c16b0 : (a0_0 == 2) = true := beq_iff_eq.mpr c16
     have c16b1 : (a0_0 != 2) = false := bne_eq_false_iff_eq.mpr c16
     clear c16
     by_cases c17 : (l0_3.length : Int) = (l1_3.length : Int)
     ·rw [if_pos c17] at H
      have c17b0 : ((l0_3.length : Int) == (l1_3.length : Int)) = true := beq_iff_eq.mpr c17
      have c17b1 : ((l0_3.length : Int) != (l1_3.length : Int)) = false := bne_eq_false_iff_eq.mpr c17
      have c17b2 : (l0_3.length == l1_3.length) = true := by first | simpa using c17 | (simp at c17 ⊢; omega)
      clear c17
      have H' := am H
      clear H
      go_enter Tryd.func19, Tryd.ntmps19
      go_wp2_with (first | ((with_reducible refine gate_dst (N := 2) rfl ?_); refine box_event ?hg (N := 2) ?hd (cs := #[.int .i64 a0_0, .int .u64 a0_1, .string a0_2, .slice A0_3 l0_3.length c0_3]) (t := 26) ?hr ?_; (case hd => rfl); (case hg => rfl); (case hr => first | (go_simp; done) | (go_simp; rfl)); intro gb396 hg w18 hbox hb; have BK396 := am (hbox); have GW396 := am ((by rw [hg]; exact (below_size pB) : w.heap.size ≤ gb396)); have GE396 := am ((by rw [hg]; exact (below_size pB) : w.heap.size ≤ gb396)); replace HB := am (below_step pB hb); clear hb hbox hg) | ((with_reducible refine gate_dst (N := 3) rfl ?_); refine box_event ?hg (N := 3) ?hd (cs := #[.int .i64 a1_0, .int .u64 a1_1, .string a1_2, .slice A1_3 l1_3.length c1_3]) (t := 26) ?hr ?_; (case hd => rfl); (case hg => rfl); (case hr => first | (go_simp; done) | (go_simp; rfl)); intro gb397 hg w19 hbox hb; have BK397 := am (hbox); have GW397 := am ((by rw [hg]; exact (below_size pB) : w.heap.size ≤ gb397)); have GE397 := am ((by rw [hg]; exact (below_size pB) : w.heap.size ≤ gb397)); have NB396_397 := am ((by rw [hg]; exact Nat.ne_of_lt (pkl BK396.out) : gb396 ≠ gb397)); have NB397_396 := am ((by rw [hg]; exact Nat.ne_of_gt (pkl BK396.out) : gb397 ≠ gb396)); replace BK396 := am (pkb BK396.out hb); replace HB := am (below_step pB hb); clear hb hbox hg; have hnb20 := NB396_397.out; have hnc20 := NB397_396.out; have q21 := cf4 BK396.out; have q22 := cf4 BK397.out))
      go_loopg [5] k (fun kq v5 w' => ∃ (x5_1 : Int), v5 = .int .i64 x5_1 ∧ Aside0 (minstrelref07_Same.l0 kq x5_1 a0_0 a0_1 a0_2 l0_3 a1_0 a1_1 a1_2 l1_3 = some r) ∧ Aside0 (kq ≤ k) ∧ Aside0 (w'.heap[gb396]? = some (.cells #[.int .i64 a0_0, .int .u64 a0_1, .string a0_2, (.slice A0_3 l0_3.length c0_3)] 26 (0, 0))) ∧ Aside0 (w'.heap[gb397]? = some (.cells #[.int .i64 a1_0, .int .u64 a1_1, .string a1_2, (.slice A1_3 l1_3.length c1_3)] 26 (0, 0))) ∧ Aside0 (Below w.heap.size w w'))
      case atStart => exact ⟨(0), (by first | rfl | (simp; done) | (simp [*]; done)), H', ⟨Nat.le_refl _⟩, ⟨by (with_reducible repeat (first | refine blk_drewN ?_ _ | refine blk_drew ?_ | refine blk_alloc ?_ _)); exact BK396.out⟩, ⟨by (with_reducible repeat (first | refine blk_drewN ?_ _ | refine blk_drew ?_ | refine blk_alloc ?_ _)); exact BK397.out⟩, ⟨pB⟩⟩
      case round =>
       clear H'
       try clear c1
       try clear c2
       try clear p2
       try clear c3
       try clear c3b0
       try clear c3b1
       try clear c4
       try clear c4b0
       try clear c4b1
       try clear c7
       try clear c10
       try clear c10b0
       try clear c10b1
       try clear c13
       try clear c16
       try clear c16b0
       try clear c16b1
       try clear c17
       try clear c17b0
       try clear c17b1
       try clear c17b2
       try clear c19
       try clear c20
       try clear q14 q15 q21 q22 q8 q9
       obtain ⟨x5_1, rfl, HA, HK1, BK396, BK397, HB⟩ := hrel
       cases gk with
       | zero => exact absurd HA.out (by simp [minstrelref07_Same.l0])
       | succ k1 =>
        have H := HA.out
        clear HA
        simp only [minstrelref07_Same.l0] at H
        by_cases c23 : x5_1 < (l0_3.length : Int)
        ·rw [if_pos c23] at H
         have c23b0 : decide (x5_1 < (l0_3.length : Int)) = true := decide_eq_true c23
         clear c23
         by_cases c24 : 0 ≤ x5_1
         ·rw [if_pos c24] at H
          have c24b0 : decide (0 ≤ x5_1) = true := decide_eq_true c24
          clear c24
          by_cases c25 : x5_1 < (l1_3.length : Int)
          ·rw [if_pos c25] at H
           have c25b0 : decide (x5_1 < (l1_3.length : Int)) = true := decide_eq_true c25
           clear c25
           replace H := Option.bind_eq_some_iff.mp H
           obtain ⟨t400, A260, H⟩ := H
           try dsimp only at H
           have A26 := am A260
           clear A260
           by_cases c27 : t400 = true
           ·subst c27
            rw [if_pos rfl] at H
            have H' := am H
            clear H
            have hnb28 := NB396_397.out
            have hnc28 := NB397_396.out
            have q29 := cf4 BK396.out
            try go_wp2
            replace BK396 := am (blk_drew BK396.out)
            replace BK397 := am (blk_drew BK397.out)
            replace HB := am (below_drew1 HB.out)
            have p398 : 0 ≤ (x5_1 : Int) := pD
            have q398 : x5_1 < (l0_3.length : Int) := pD
            obtain ⟨ad398, A398_3, c398_3, e398, hx398_0, hx398_1, hx398_2, hx398_3, hl398_3, hi398_3⟩ := at_T26 HR0_3.out x5_1 p398 q398
            have hw398_3 := hx398_3
            have hw398_2 := hx398_2
            have hw398_1 := hx398_1
            have hw398_0 := hx398_0
            cases e398
            replace hx398_0 := (HB.out.cell (World.block_lt_of_cell? w _ hx398_0)).trans hx398_0
            replace hx398_1 := (HB.out.cell (World.block_lt_of_cell? w _ hx398_1)).trans hx398_1
            replace hx398_2 := (HB.out.cell (World.block_lt_of_cell? w _ hx398_2)).trans hx398_2
            replace hx398_3 := (HB.out.cell (World.block_lt_of_cell? w _ hx398_3)).trans hx398_3
            have HR398_3 := am hi398_3
            have HC398_3 := am hl398_3
            clear hi398_3 hl398_3
            replace p398 := eq_true p398
            replace q398 := eq_true q398
            have p399 : 0 ≤ (x5_1 : Int) := pD
            have q399 : x5_1 < (l1_3.length : Int) := pD
            obtain ⟨ad399, A399_3, c399_3, e399, hx399_0, hx399_1, hx399_2, hx399_3, hl399_3, hi399_3⟩ := at_T26 HR1_3.out x5_1 p399 q399
            have hw399_3 := hx399_3
            have hw399_2 := hx399_2
            have hw399_1 := hx399_1
            have hw399_0 := hx399_0
            cases e399
            replace hx399_0 := (HB.out.cell (World.block_lt_of_cell? w _ hx399_0)).trans hx399_0
            replace hx399_1 := (HB.out.cell (World.block_lt_of_cell? w _ hx399_1)).trans hx399_1
            replace hx399_2 := (HB.out.cell (World.block_lt_of_cell? w _ hx399_2)).trans hx399_2
            replace hx399_3 := (HB.out.cell (World.block_lt_of_cell? w _ hx399_3)).trans hx399_3
            have HR399_3 := am hi399_3
            have HC399_3 := am hl399_3
            clear hi399_3 hl399_3
            replace p399 := eq_true p399
            replace q399 := eq_true q399
            refine start_ (n := 12) (S := fun w' => w'.cell? ⟨gb396, 0, none⟩ = some (.int .i64 a0_0) ∧ w'.cell? ⟨gb396, 1, none⟩ = some (.int .u64 a0_1) ∧ w'.cell? ⟨gb396, 2, none⟩ = some (.string a0_2) ∧ w'.cell? ⟨gb396, 3, none⟩ = some (.slice (some ad398) l0_3.length c0_3) ∧ w'.cell? ⟨gb397, 0, none⟩ = some (.int .i64 a1_0) ∧ w'.cell? ⟨gb397, 1, none⟩ = some (.int .u64 a1_1) ∧ w'.cell? ⟨gb397, 2, none⟩ = some (.string a1_2) ∧ w'.cell? ⟨gb397, 3, none⟩ = some (.slice (some ad399) l1_3.length c1_3) ∧ w'.cell? (ad398.add ((x5_1).toNat * 4)) = some (.int .i64 ((rd_T26 l0_3 x5_1).f0)) ∧ w'.cell? ⟨(ad398.add ((x5_1).toNat * 4)).block, (ad398.add ((x5_1).toNat * 4)).off + 1, none⟩ = some (.int .u64 ((rd_T26 l0_3 x5_1).f1)) ∧ w'.cell? ⟨(ad398.add ((x5_1).toNat * 4)).block, (ad398.add ((x5_1).toNat * 4)).off + 2, none⟩ = some (.string ((rd_T26 l0_3 x5_1).f2)) ∧ w'.cell? ⟨(ad398.add ((x5_1).toNat * 4)).block, (ad398.add ((x5_1).toNat * 4)).off + 3, none⟩ = some (.slice A398_3 ((rd_T26 l0_3 x5_1).f3).length c398_3) ∧ w'.cell? (ad399.add ((x5_1).toNat * 4)) = some (.int .i64 ((rd_T26 l1_3 x5_1).f0)) ∧ w'.cell? ⟨(ad399.add ((x5_1).toNat * 4)).block, (ad399.add ((x5_1).toNat * 4)).off + 1, none⟩ = some (.int .u64 ((rd_T26 l1_3 x5_1).f1)) ∧ w'.cell? ⟨(ad399.add ((x5_1).toNat * 4)).block, (ad399.add ((x5_1).toNat * 4)).off + 2, none⟩ = some (.string ((rd_T26 l1_3 x5_1).f2)) ∧ w'.cell? ⟨(ad399.add ((x5_1).toNat * 4)).block, (ad399.add ((x5_1).toNat * 4)).off + 3, none⟩ = some (.slice A399_3 ((rd_T26 l1_3 x5_1).f3).length c399_3)) (ds := []) (bm 12 0) (by kernel_rfl) rfl rfl ⟨cz0 BK396.out, cz1 BK396.out, cz2 BK396.out, cz3 BK396.out, cz0 BK397.out, cz1 BK397.out, cz2 BK397.out, cz3 BK397.out, ((HB.out.cell (World.block_lt_of_cell? w _ hw398_0)).trans hw398_0), ((HB.out.cell (World.block_lt_of_cell? w _ hw398_1)).trans hw398_1), ((HB.out.cell (World.block_lt_of_cell? w _ hw398_2)).trans hw398_2), ((HB.out.cell (World.block_lt_of_cell? w _ hw398_3)).trans hw398_3), ((HB.out.cell (World.block_lt_of_cell? w _ hw399_0)).trans hw399_0), ((HB.out.cell (World.block_lt_of_cell? w _ hw399_1)).trans hw399_1), ((HB.out.cell (World.block_lt_of_cell? w _ hw399_2)).trans hw399_2), ((HB.out.cell (World.block_lt_of_cell? w _ hw399_3)).trans hw399_3)⟩ (fun hHeld => ?_); refine with_tabW minstrelref07_Same.tab13 minstrelref07_Same.bits13 (fun HT_ HW_ => ?_)
            generalize wr.drew = w30 at BK396 BK397 HB HR398_3 HR399_3 hx398_0 hx398_1 hx398_2 hx398_3 hx399_0 hx399_1 hx399_2 hx399_3 hHeld ⊢
            refine pure_ (i := 0) (N := some 44) (v := ?_) (a' := ?_) (bm 12 1) rfl rfl (any_of HT_.out (by kernel_rfl)) (fun _ _ _ h => h) (Or.inl ⟨by kernel_rfl, ?_⟩) ?_ ?_
            rotate_left
            ·intro w'
             go_simp
             with_reducible rfl
            rotate_left
            ·exact pA
            refine pure_ (i := 2) (N := some 46) (v := ?_) (a' := ?_) (bm 12 5) rfl rfl (any_of HT_.out (by kernel_rfl)) (fun _ _ _ h => h) (Or.inl ⟨by kernel_rfl, ?_⟩) ?_ ?_
            rotate_left
            ·intro w'
             go_simp
             with_reducible rfl
            rotate_left
            ·exact pA
            refine pure_ (i := 5) (N := some 49) (v := ?_) (a' := ?_) (bm 12 37) rfl rfl (any_of HT_.out (by kernel_rfl)) (fun _ _ _ h => h) (Or.inl ⟨by kernel_rfl, ?_⟩) ?_ ?_
            rotate_left
            ·intro w'
             go_simp
             with_reducible rfl
            rotate_left
            ·exact pA
            refine pure_ (i := 7) (N := some 51) (v := ?_) (a' := ?_) (bm 12 165) rfl rfl (any_of HT_.out (by kernel_rfl)) (fun _ _ _ h => h) (Or.inl ⟨by kernel_rfl, ?_⟩) ?_ ?_
            rotate_left
            ·intro w'
             go_simp
             with_reducible rfl
            rotate_left
            ·exact pA
            refine take_ (i := 1) (N := some 45) (v := ?_) (a' := ?_) (bm 12 167) rfl rfl (take_ofW HT_.out HW_.out (by kernel_rfl)) (fun _ _ _ h => h) (Or.inl ⟨by kernel_rfl, ?_⟩) hHeld ?_ ?_
            rotate_left
            ·rintro w' ⟨s0, s1, s2, s3, s4, s5, s6, s7, s8, s9, s10, s11, s12, s13, s14, s15⟩
             go_simp
             with_reducible rfl
            rotate_left
            ·exact pA
            refine pure_ (i := 3) (N := some 47) (v := ?_) (a' := ?_) (bm 12 175) rfl rfl (any_of HT_.out (by kernel_rfl)) (fun _ _ _ h => h) (Or.inl ⟨by kernel_rfl, ?_⟩) ?_ ?_
            rotate_left
            ·intro w'
             go_simp
             with_reducible rfl
            rotate_left
            ·exact pA
            refine take_ (i := 4) (N := some 48) (v := ?_) (a' := ?_) (bm 12 191) rfl rfl (take_ofW HT_.out HW_.out (by kernel_rfl)) (fun _ _ _ h => h) (Or.inl ⟨by kernel_rfl, ?_⟩) hHeld ?_ ?_
            rotate_left
            ·rintro w' ⟨s0, s1, s2, s3, s4, s5, s6, s7, s8, s9, s10, s11, s12, s13, s14, s15⟩
             go_simp
             with_reducible rfl
            rotate_left
            ·exact pA
            refine take_ (i := 6) (N := some 50) (v := ?_) (a' := ?_) (bm 12 255) rfl rfl (take_ofW HT_.out HW_.out (by kernel_rfl)) (fun _ _ _ h => h) (Or.inl ⟨by kernel_rfl, ?_⟩) hHeld ?_ ?_
            rotate_left
            ·rintro w' ⟨s0, s1, s2, s3, s4, s5, s6, s7, s8, s9, s10, s11, s12, s13, s14, s15⟩
             go_simp
             with_reducible rfl
            rotate_left
            ·exact pA
            refine pure_ (i := 8) (N := some 52) (v := ?_) (a' := ?_) (bm 12 511) rfl rfl (any_of HT_.out (by kernel_rfl)) (fun _ _ _ h => h) (Or.inl ⟨by kernel_rfl, ?_⟩) ?_ ?_
            rotate_left
            ·intro w'
             go_simp
             with_reducible rfl
            rotate_left
            ·exact pA
            refine take_ (i := 9) (N := some 53) (v := ?_) (a' := ?_) (bm 12 1023) rfl rfl (take_ofW HT_.out HW_.out (by kernel_rfl)) (fun _ _ _ h => h) (Or.inl ⟨by kernel_rfl, ?_⟩) hHeld ?_ ?_
            rotate_left
            ·rintro w' ⟨s0, s1, s2, s3, s4, s5, s6, s7, s8, s9, s10, s11, s12, s13, s14, s15⟩
             go_simp
             with_reducible rfl
            rotate_left
            ·exact pA
            refine one_ (i := 10) (N := some 54) (bm 12 2047) rfl rfl (one_of HT_.out (by kernel_rfl)) (by decide) (fun K hK => ?_)
            refine goes_ Tryd.func19 (by kernel_rfl) rfl #[.agg #[.int .i64 ((rd_T26 l0_3 x5_1).f0), .int .u64 ((rd_T26 l0_3 x5_1).f1), .string ((rd_T26 l0_3 x5_1).f2), .slice A398_3 ((rd_T26 l0_3 x5_1).f3).length c398_3], .agg #[.int .i64 ((rd_T26 l1_3 x5_1).f0), .int .u64 ((rd_T26 l1_3 x5_1).f1), .string ((rd_T26 l1_3 x5_1).f2), .slice A399_3 ((rd_T26 l1_3 x5_1).f3).length c399_3]] (by rfl) rfl rfl pM ?_
            with_reducible refine (ih k1 (by have := HK1.out; omega) ((rd_T26 l0_3 x5_1).f0) ((rd_T26 l0_3 x5_1).f1) ((rd_T26 l0_3 x5_1).f2) _ _ ((rd_T26 l0_3 x5_1).f3) ((rd_T26 l1_3 x5_1).f0) ((rd_T26 l1_3 x5_1).f1) ((rd_T26 l1_3 x5_1).f2) _ _ ((rd_T26 l1_3 x5_1).f3) true _ ?side1 ?side2 ?side3 ?side4 A26.out).mono ?_
            (case side1 => exact pC (Kd.C_below HR398_3.out HB.out))
            (case side2 => exact HC398_3.out)
            (case side3 => exact pC (Kd.C_below HR399_3.out HB.out))
            (case side4 => exact HC399_3.out)
            rintro e w31 ⟨rfl, hb⟩
            refine ⟨_, rfl, ?_⟩
            have n0_ := am (pkb BK396.out hb)
            have n1_ := am (pkb BK397.out hb)
            have n2_ := am (below_step pB hb)
            clear BK396 BK397 HB; have BK396 := n0_; have BK397 := n1_; have HB := n2_; clear n0_ n1_ n2_; (try clear hb); (try clear hb2); (try clear hk); (try clear hi)
            refine hK.out _ _ ⟨cz0 BK396.out, cz1 BK396.out, cz2 BK396.out, cz3 BK396.out, cz0 BK397.out, cz1 BK397.out, cz2 BK397.out, cz3 BK397.out, ((HB.out.cell (World.block_lt_of_cell? w _ hw398_0)).trans hw398_0), ((HB.out.cell (World.block_lt_of_cell? w _ hw398_1)).trans hw398_1), ((HB.out.cell (World.block_lt_of_cell? w _ hw398_2)).trans hw398_2), ((HB.out.cell (World.block_lt_of_cell? w _ hw398_3)).trans hw398_3), ((HB.out.cell (World.block_lt_of_cell? w _ hw399_0)).trans hw399_0), ((HB.out.cell (World.block_lt_of_cell? w _ hw399_1)).trans hw399_1), ((HB.out.cell (World.block_lt_of_cell? w _ hw399_2)).trans hw399_2), ((HB.out.cell (World.block_lt_of_cell? w _ hw399_3)).trans hw399_3)⟩ (fun hHeld => ?_)
            clear hK K
            refine norm_ (a' := ?_) ?_ ?_
            rotate_left
            ·show Act.put _ (some 54) _ = _
             exact pA
            refine pure_ (i := 11) (N := some 55) (v := ?_) (a' := ?_) (bm 12 4095) rfl rfl (any_of HT_.out (by kernel_rfl)) (fun _ _ _ h => h) (Or.inl ⟨by kernel_rfl, ?_⟩) ?_ ?_
            rotate_left
            ·intro w'
             go_simp
             with_reducible rfl
            rotate_left
            ·exact pA
            refine done_ (done_of HT_.out (by kernel_rfl)) ?_
            try go_wp2
            go_roundg k1
            case measure => have := HK1.out; omega
            case rel => exact ⟨(wrap64 (x5_1 + 1)), (by first | rfl | (simp; done) | (simp [*]; done)), H', ⟨by have := HK1.out; omega⟩, ⟨by (with_reducible repeat (first | refine blk_drewN ?_ _ | refine blk_drew ?_ | refine blk_alloc ?_ _)); exact BK396.out⟩, ⟨by (with_reducible repeat (first | refine blk_drewN ?_ _ | refine blk_drew ?_ | refine blk_alloc ?_ _)); exact BK397.out⟩, ⟨pB⟩⟩
           ·replace c27 := Bool.eq_false_iff.mpr c27
            subst c27
            rw [if_neg (show ¬ (false = true) by decide)] at H
            obtain rfl := Option.some.inj H
            have hnb32 := NB396_397.out
            have hnc32 := NB397_396.out
            have q33 := cf4 BK396.out
            try go_wp2
            replace BK396 := am (blk_drew BK396.out)
            replace BK397 := am (blk_drew BK397.out)
            replace HB := am (below_drew1 HB.out)
            have p398 : 0 ≤ (x5_1 : Int) := pD
            have q398 : x5_1 < (l0_3.length : Int) := pD
            obtain ⟨ad398, A398_3, c398_3, e398, hx398_0, hx398_1, hx398_2, hx398_3, hl398_3, hi398_3⟩ := at_T26 HR0_3.out x5_1 p398 q398
            have hw398_3 := hx398_3
            have hw398_2 := hx398_2
            have hw398_1 := hx398_1
            have hw398_0 := hx398_0
            cases e398
            replace hx398_0 := (HB.out.cell (World.block_lt_of_cell? w _ hx398_0)).trans hx398_0
            replace hx398_1 := (HB.out.cell (World.block_lt_of_cell? w _ hx398_1)).trans hx398_1
            replace hx398_2 := (HB.out.cell (World.block_lt_of_cell? w _ hx398_2)).trans hx398_2
            replace hx398_3 := (HB.out.cell (World.block_lt_of_cell? w _ hx398_3)).trans hx398_3
            have HR398_3 := am hi398_3
            have HC398_3 := am hl398_3
            clear hi398_3 hl398_3
            replace p398 := eq_true p398
            replace q398 := eq_true q398
            have p399 : 0 ≤ (x5_1 : Int) := pD
            have q399 : x5_1 < (l1_3.length : Int) := pD
            obtain ⟨ad399, A399_3, c399_3, e399, hx399_0, hx399_1, hx399_2, hx399_3, hl399_3, hi399_3⟩ := at_T26 HR1_3.out x5_1 p399 q399
            have hw399_3 := hx399_3
            have hw399_2 := hx399_2
            have hw399_1 := hx399_1
            have hw399_0 := hx399_0
            cases e399
            replace hx399_0 := (HB.out.cell (World.block_lt_of_cell? w _ hx399_0)).trans hx399_0
            replace hx399_1 := (HB.out.cell (World.block_lt_of_cell? w _ hx399_1)).trans hx399_1
            replace hx399_2 := (HB.out.cell (World.block_lt_of_cell? w _ hx399_2)).trans hx399_2
            replace hx399_3 := (HB.out.cell (World.block_lt_of_cell? w _ hx399_3)).trans hx399_3
            have HR399_3 := am hi399_3
            have HC399_3 := am hl399_3
            clear hi399_3 hl399_3
            replace p399 := eq_true p399
            replace q399 := eq_true q399
            refine start_ (n := 12) (S := fun w' => w'.cell? ⟨gb396, 0, none⟩ = some (.int .i64 a0_0) ∧ w'.cell? ⟨gb396, 1, none⟩ = some (.int .u64 a0_1) ∧ w'.cell? ⟨gb396, 2, none⟩ = some (.string a0_2) ∧ w'.cell? ⟨gb396, 3, none⟩ = some (.slice (some ad398) l0_3.length c0_3) ∧ w'.cell? ⟨gb397, 0, none⟩ = some (.int .i64 a1_0) ∧ w'.cell? ⟨gb397, 1, none⟩ = some (.int .u64 a1_1) ∧ w'.cell? ⟨gb397, 2, none⟩ = some (.string a1_2) ∧ w'.cell? ⟨gb397, 3, none⟩ = some (.slice (some ad399) l1_3.length c1_3) ∧ w'.cell? (ad398.add ((x5_1).toNat * 4)) = some (.int .i64 ((rd_T26 l0_3 x5_1).f0)) ∧ w'.cell? ⟨(ad398.add ((x5_1).toNat * 4)).block, (ad398.add ((x5_1).toNat * 4)).off + 1, none⟩ = some (.int .u64 ((rd_T26 l0_3 x5_1).f1)) ∧ w'.cell? ⟨(ad398.add ((x5_1).toNat * 4)).block, (ad398.add ((x5_1).toNat * 4)).off + 2, none⟩ = some (.string ((rd_T26 l0_3 x5_1).f2)) ∧ w'.cell? ⟨(ad398.add ((x5_1).toNat * 4)).block, (ad398.add ((x5_1).toNat * 4)).off + 3, none⟩ = some (.slice A398_3 ((rd_T26 l0_3 x5_1).f3).length c398_3) ∧ w'.cell? (ad399.add ((x5_1).toNat * 4)) = some (.int .i64 ((rd_T26 l1_3 x5_1).f0)) ∧ w'.cell? ⟨(ad399.add ((x5_1).toNat * 4)).block, (ad399.add ((x5_1).toNat * 4)).off + 1, none⟩ = some (.int .u64 ((rd_T26 l1_3 x5_1).f1)) ∧ w'.cell? ⟨(ad399.add ((x5_1).toNat * 4)).block, (ad399.add ((x5_1).toNat * 4)).off + 2, none⟩ = some (.string ((rd_T26 l1_3 x5_1).f2)) ∧ w'.cell? ⟨(ad399.add ((x5_1).toNat * 4)).block, (ad399.add ((x5_1).toNat * 4)).off + 3, none⟩ = some (.slice A399_3 ((rd_T26 l1_3 x5_1).f3).length c399_3)) (ds := []) (bm 12 0) (by kernel_rfl) rfl rfl ⟨cz0 BK396.out, cz1 BK396.out, cz2 BK396.out, cz3 BK396.out, cz0 BK397.out, cz1 BK397.out, cz2 BK397.out, cz3 BK397.out, ((HB.out.cell (World.block_lt_of_cell? w _ hw398_0)).trans hw398_0), ((HB.out.cell (World.block_lt_of_cell? w _ hw398_1)).trans hw398_1), ((HB.out.cell (World.block_lt_of_cell? w _ hw398_2)).trans hw398_2), ((HB.out.cell (World.block_lt_of_cell? w _ hw398_3)).trans hw398_3), ((HB.out.cell (World.block_lt_of_cell? w _ hw399_0)).trans hw399_0), ((HB.out.cell (World.block_lt_of_cell? w _ hw399_1)).trans hw399_1), ((HB.out.cell (World.block_lt_of_cell? w _ hw399_2)).trans hw399_2), ((HB.out.cell (World.block_lt_of_cell? w _ hw399_3)).trans hw399_3)⟩ (fun hHeld => ?_); refine with_tabW minstrelref07_Same.tab13 minstrelref07_Same.bits13 (fun HT_ HW_ => ?_)
            generalize wr.drew = w34 at BK396 BK397 HB HR398_3 HR399_3 hx398_0 hx398_1 hx398_2 hx398_3 hx399_0 hx399_1 hx399_2 hx399_3 hHeld ⊢
            refine pure_ (i := 0) (N := some 44) (v := ?_) (a' := ?_) (bm 12 1) rfl rfl (any_of HT_.out (by kernel_rfl)) (fun _ _ _ h => h) (Or.inl ⟨by kernel_rfl, ?_⟩) ?_ ?_
            rotate_left
            ·intro w'
             go_simp
             with_reducible rfl
            rotate_left
            ·exact pA
            refine pure_ (i := 2) (N := some 46) (v := ?_) (a' := ?_) (bm 12 5) rfl rfl (any_of HT_.out (by kernel_rfl)) (fun _ _ _ h => h) (Or.inl ⟨by kernel_rfl, ?_⟩) ?_ ?_
            rotate_left
            ·intro w'
             go_simp
             with_reducible rfl
            rotate_left
            ·exact pA
            refine pure_ (i := 5) (N := some 49) (v := ?_) (a' := ?_) (bm 12 37) rfl rfl (any_of HT_.out (by kernel_rfl)) (fun _ _ _ h => h) (Or.inl ⟨by kernel_rfl, ?_⟩) ?_ ?_
            rotate_left
            ·intro w'
             go_simp
             with_reducible rfl
            rotate_left
            ·exact pA
            refine pure_ (i := 7) (N := some 51) (v := ?_) (a' := ?_) (bm 12 165) rfl rfl (any_of HT_.out (by kernel_rfl)) (fun _ _ _ h => h) (Or.inl ⟨by kernel_rfl, ?_⟩) ?_ ?_
            rotate_left
            ·intro w'
             go_simp
             with_reducible rfl
            rotate_left
            ·exact pA
            refine take_ (i := 1) (N := some 45) (v := ?_) (a' := ?_) (bm 12 167) rfl rfl (take_ofW HT_.out HW_.out (by kernel_rfl)) (fun _ _ _ h => h) (Or.inl ⟨by kernel_rfl, ?_⟩) hHeld ?_ ?_
            rotate_left
            ·rintro w' ⟨s0, s1, s2, s3, s4, s5, s6, s7, s8, s9, s10, s11, s12, s13, s14, s15⟩
             go_simp
             with_reducible rfl
            rotate_left
            ·exact pA
            refine pure_ (i := 3) (N := some 47) (v := ?_) (a' := ?_) (bm 12 175) rfl rfl (any_of HT_.out (by kernel_rfl)) (fun _ _ _ h => h) (Or.inl ⟨by kernel_rfl, ?_⟩) ?_ ?_
            rotate_left
            ·intro w'
             go_simp
             with_reducible rfl
            rotate_left
            ·exact pA
            refine take_ (i := 4) (N := some 48) (v := ?_) (a' := ?_) (bm 12 191) rfl rfl (take_ofW HT_.out HW_.out (by kernel_rfl)) (fun _ _ _ h => h) (Or.inl ⟨by kernel_rfl, ?_⟩) hHeld ?_ ?_
            rotate_left
            ·rintro w' ⟨s0, s1, s2, s3, s4, s5, s6, s7, s8, s9, s10, s11, s12, s13, s14, s15⟩
             go_simp
             with_reducible rfl
            rotate_left
            ·exact pA
            refine take_ (i := 6) (N := some 50) (v := ?_) (a' := ?_) (bm 12 255) rfl rfl (take_ofW HT_.out HW_.out (by kernel_rfl)) (fun _ _ _ h => h) (Or.inl ⟨by kernel_rfl, ?_⟩) hHeld ?_ ?_
            rotate_left
            ·rintro w' ⟨s0, s1, s2, s3, s4, s5, s6, s7, s8, s9, s10, s11, s12, s13, s14, s15⟩
             go_simp
             with_reducible rfl
            rotate_left
            ·exact pA
            refine pure_ (i := 8) (N := some 52) (v := ?_) (a' := ?_) (bm 12 511) rfl rfl (any_of HT_.out (by kernel_rfl)) (fun _ _ _ h => h) (Or.inl ⟨by kernel_rfl, ?_⟩) ?_ ?_
            rotate_left
            ·intro w'
             go_simp
             with_reducible rfl
            rotate_left
            ·exact pA
            refine take_ (i := 9) (N := some 53) (v := ?_) (a' := ?_) (bm 12 1023) rfl rfl (take_ofW HT_.out HW_.out (by kernel_rfl)) (fun _ _ _ h => h) (Or.inl ⟨by kernel_rfl, ?_⟩) hHeld ?_ ?_
            rotate_left
            ·rintro w' ⟨s0, s1, s2, s3, s4, s5, s6, s7, s8, s9, s10, s11, s12, s13, s14, s15⟩
             go_simp
             with_reducible rfl
            rotate_left
            ·exact pA
            refine one_ (i := 10) (N := some 54) (bm 12 2047) rfl rfl (one_of HT_.out (by kernel_rfl)) (by decide) (fun K hK => ?_)
            refine goes_ Tryd.func19 (by kernel_rfl) rfl #[.agg #[.int .i64 ((rd_T26 l0_3 x5_1).f0), .int .u64 ((rd_T26 l0_3 x5_1).f1), .string ((rd_T26 l0_3 x5_1).f2), .slice A398_3 ((rd_T26 l0_3 x5_1).f3).length c398_3], .agg #[.int .i64 ((rd_T26 l1_3 x5_1).f0), .int .u64 ((rd_T26 l1_3 x5_1).f1), .string ((rd_T26 l1_3 x5_1).f2), .slice A399_3 ((rd_T26 l1_3 x5_1).f3).length c399_3]] (by rfl) rfl rfl pM ?_
            with_reducible refine (ih k1 (by have := HK1.out; omega) ((rd_T26 l0_3 x5_1).f0) ((rd_T26 l0_3 x5_1).f1) ((rd_T26 l0_3 x5_1).f2) _ _ ((rd_T26 l0_3 x5_1).f3) ((rd_T26 l1_3 x5_1).f0) ((rd_T26 l1_3 x5_1).f1) ((rd_T26 l1_3 x5_1).f2) _ _ ((rd_T26 l1_3 x5_1).f3) false _ ?side1 ?side2 ?side3 ?side4 A26.out).mono ?_
            (case side1 => exact pC (Kd.C_below HR398_3.out HB.out))
            (case side2 => exact HC398_3.out)
            (case side3 => exact pC (Kd.C_below HR399_3.out HB.out))
            (case side4 => exact HC399_3.out)
            rintro e w35 ⟨rfl, hb⟩
            refine ⟨_, rfl, ?_⟩
            have n0_ := am (pkb BK396.out hb)
            have n1_ := am (pkb BK397.out hb)
            have n2_ := am (below_step pB hb)
            clear BK396 BK397 HB; have BK396 := n0_; have BK397 := n1_; have HB := n2_; clear n0_ n1_ n2_; (try clear hb); (try clear hb2); (try clear hk); (try clear hi)
            refine hK.out _ _ ⟨cz0 BK396.out, cz1 BK396.out, cz2 BK396.out, cz3 BK396.out, cz0 BK397.out, cz1 BK397.out, cz2 BK397.out, cz3 BK397.out, ((HB.out.cell (World.block_lt_of_cell? w _ hw398_0)).trans hw398_0), ((HB.out.cell (World.block_lt_of_cell? w _ hw398_1)).trans hw398_1), ((HB.out.cell (World.block_lt_of_cell? w _ hw398_2)).trans hw398_2), ((HB.out.cell (World.block_lt_of_cell? w _ hw398_3)).trans hw398_3), ((HB.out.cell (World.block_lt_of_cell? w _ hw399_0)).trans hw399_0), ((HB.out.cell (World.block_lt_of_cell? w _ hw399_1)).trans hw399_1), ((HB.out.cell (World.block_lt_of_cell? w _ hw399_2)).trans hw399_2), ((HB.out.cell (World.block_lt_of_cell? w _ hw399_3)).trans hw399_3)⟩ (fun hHeld => ?_)
            clear hK K
            refine norm_ (a' := ?_) ?_ ?_
            rotate_left
            ·show Act.put _ (some 54) _ = _
             exact pA
            refine pure_ (i := 11) (N := some 55) (v := ?_) (a' := ?_) (bm 12 4095) rfl rfl (any_of HT_.out (by kernel_rfl)) (fun _ _ _ h => h) (Or.inl ⟨by kernel_rfl, ?_⟩) ?_ ?_
            rotate_left
            ·intro w'
             go_simp
             with_reducible rfl
            rotate_left
            ·exact pA
            refine done_ (done_of HT_.out (by kernel_rfl)) ?_
            try go_wp2
            go_ret
            exact ⟨pE, pB⟩
          ·rw [if_neg c25] at H
           exact absurd H (by simp)
         ·rw [if_neg c24] at H
          exact absurd H (by simp)
        ·rw [if_neg c23] at H
         have c23b0 : decide (x5_1 < (l0_3.length : Int)) = false := decide_eq_false c23
         clear c23
         obtain rfl := Option.some.inj H
         have hnb36 := NB396_397.out
         have hnc36 := NB397_396.out
         have q37 := cf4 BK396.out
         go_wp2
         go_ret
         exact ⟨pE, pB⟩
     ·rw [if_neg c17] at H
      have c17b0 : ((l0_3.length : Int) == (l1_3.length : Int)) = false := beq_eq_false_iff_ne.mpr c17
      have c17b1 : ((l0_3.length : Int) != (l1_3.length : Int)) = true := bne_iff_ne.mpr c17
      have c17b2 : (l0_3.length == l1_3.length) = false := by first | simpa using c17 | (simp at c17 ⊢; omega)
      obtain rfl := Option.some.inj H
      go_enter Tryd.func19, Tryd.ntmps19
      go_wp2_with (first | ((with_reducible refine gate_dst (N := 2) rfl ?_); refine box_event ?hg (N := 2) ?hd (cs := #[.int .i64 a0_0, .int .u64 a0_1, .string a0_2, .slice A0_3 l0_3.length c0_3]) (t := 26) ?hr ?_; (case hd => rfl); (case hg => rfl); (case hr => first | (go_simp; done) | (go_simp; rfl)); intro gb396 hg w38 hbox hb; have BK396 := am (hbox); have GW396 := am ((by rw [hg]; exact (below_size pB) : w.heap.size ≤ gb396)); have GE396 := am ((by rw [hg]; exact (below_size pB) : w.heap.size ≤ gb396)); replace HB := am (below_step pB hb); clear hb hbox hg) | ((with_reducible refine gate_dst (N := 3) rfl ?_); refine box_event ?hg (N := 3) ?hd (cs := #[.int .i64 a1_0, .int .u64 a1_1, .string a1_2, .slice A1_3 l1_3.length c1_3]) (t := 26) ?hr ?_; (case hd => rfl); (case hg => rfl); (case hr => first | (go_simp; done) | (go_simp; rfl)); intro gb397 hg w39 hbox hb; have BK397 := am (hbox); have GW397 := am ((by rw [hg]; exact (below_size pB) : w.heap.size ≤ gb397)); have GE397 := am ((by rw [hg]; exact (below_size pB) : w.heap.size ≤ gb397)); have NB396_397 := am ((by rw [hg]; exact Nat.ne_of_lt (pkl BK396.out) : gb396 ≠ gb397)); have NB397_396 := am ((by rw [hg]; exact Nat.ne_of_gt (pkl BK396.out) : gb397 ≠ gb396)); replace BK396 := am (pkb BK396.out hb); replace HB := am (below_step pB hb); clear hb hbox hg; have hnb40 := NB396_397.out; have hnc40 := NB397_396.out; have q41 := cf4 BK396.out; have q42 := cf4 BK397.out))
      go_ret
      exact ⟨pE, pB⟩
    ·rw [if_neg c16] at H
     have c16b0 : (a0_0 == 2) = false := beq_eq_false_iff_ne.mpr c16
     have c16b1 : (a0_0 != 2) = true := bne_iff_ne.mpr c16
     obtain rfl := Option.some.inj H
     go_enter Tryd.func19, Tryd.ntmps19
     go_wp2_with (first | ((with_reducible refine gate_dst (N := 2) rfl ?_); refine box_event ?hg (N := 2) ?hd (cs := #[.int .i64 a0_0, .int .u64 a0_1, .string a0_2, .slice A0_3 l0_3.length c0_3]) (t := 26) ?hr ?_; (case hd => rfl); (case hg => rfl); (case hr => first | (go_simp; done) | (go_simp; rfl)); intro gb396 hg w43 hbox hb; have BK396 := am (hbox); have GW396 := am ((by rw [hg]; exact (below_size pB) : w.heap.size ≤ gb396)); have GE396 := am ((by rw [hg]; exact (below_size pB) : w.heap.size ≤ gb396)); replace HB := am (below_step pB hb); clear hb hbox hg) | ((with_reducible refine gate_dst (N := 3) rfl ?_); refine box_event ?hg (N := 3) ?hd (cs := #[.int .i64 a1_0, .int .u64 a1_1, .string a1_2, .slice A1_3 l1_3.length c1_3]) (t := 26) ?hr ?_; (case hd => rfl); (case hg => rfl); (case hr => first | (go_simp; done) | (go_simp; rfl)); intro gb397 hg w44 hbox hb; have BK397 := am (hbox); have GW397 := am ((by rw [hg]; exact (below_size pB) : w.heap.size ≤ gb397)); have GE397 := am ((by rw [hg]; exact (below_size pB) : w.heap.size ≤ gb397)); have NB396_397 := am ((by rw [hg]; exact Nat.ne_of_lt (pkl BK396.out) : gb396 ≠ gb397)); have NB397_396 := am ((by rw [hg]; exact Nat.ne_of_gt (pkl BK396.out) : gb397 ≠ gb396)); replace BK396 := am (pkb BK396.out hb); replace HB := am (below_step pB hb); clear hb hbox hg; have hnb45 := NB396_397.out; have hnc45 := NB397_396.out; have q46 := cf4 BK396.out; have q47 := cf4 BK397.out))
     go_ret
     exact ⟨pE, pB⟩
 ·rw [if_neg c3] at H
  have c3b0 : (a0_0 == a1_0) = false := beq_eq_false_iff_ne.mpr c3
  have c3b1 : (a0_0 != a1_0) = true := bne_iff_ne.mpr c3
  obtain rfl := Option.some.inj H
  go_enter Tryd.func19, Tryd.ntmps19
  go_wp2_with (first | ((with_reducible refine gate_dst (N := 2) rfl ?_); refine box_event ?hg (N := 2) ?hd (cs := #[.int .i64 a0_0, .int .u64 a0_1, .string a0_2, .slice A0_3 l0_3.length c0_3]) (t := 26) ?hr ?_; (case hd => rfl); (case hg => rfl); (case hr => first | (go_simp; done) | (go_simp; rfl)); intro gb396 hg w48 hbox hb; have BK396 := am (hbox); have GW396 := am ((by rw [hg]; exact (below_size pB) : w.heap.size ≤ gb396)); have GE396 := am ((by rw [hg]; exact (below_size pB) : w.heap.size ≤ gb396)); replace HB := am (below_step pB hb); clear hb hbox hg) | ((with_reducible refine gate_dst (N := 3) rfl ?_); refine box_event ?hg (N := 3) ?hd (cs := #[.int .i64 a1_0, .int .u64 a1_1, .string a1_2, .slice A1_3 l1_3.length c1_3]) (t := 26) ?hr ?_; (case hd => rfl); (case hg => rfl); (case hr => first | (go_simp; done) | (go_simp; rfl)); intro gb397 hg w49 hbox hb; have BK397 := am (hbox); have GW397 := am ((by rw [hg]; exact (below_size pB) : w.heap.size ≤ gb397)); have GE397 := am ((by rw [hg]; exact (below_size pB) : w.heap.size ≤ gb397)); have NB396_397 := am ((by rw [hg]; exact Nat.ne_of_lt (pkl BK396.out) : gb396 ≠ gb397)); have NB397_396 := am ((by rw [hg]; exact Nat.ne_of_gt (pkl BK396.out) : gb397 ≠ gb396)); replace BK396 := am (pkb BK396.out hb); replace HB := am (below_step pB hb); clear hb hbox hg; have hnb50 := NB396_397.out; have hnc50 := NB397_396.out; have q51 := cf4 BK396.out; have q52 := cf4 BK397.out))
  go_ret
  exact ⟨pE, pB⟩
end Go.Proofs.YtlkaffbgekbcfaaDoor.Pr
end
section
namespace Go.Proofs.YtlkaffbgekbcfaaDoor.Pr
open Go.RowKit Go.Proofs.YtlkaffbgekbcfaaDoorW.PrintWords Go.Proofs.YtlkaffbgekbcfaaDoorW.PrintLast Go.Proofs.YtlkaffbgekbcfaaDoorW.PrintMore
attribute [local go_sem] max2_int min2_int max_two min_two max_three min_three max_four min_four
mutual
def minstrelref19_Same.j0 : Nat → Bool → Int → Int → ByteArray → List Int → Int → Int → ByteArray → List Int → Option (Bool)
 | 0, _, _, _, _, _, _, _, _, _ => none
 | k + 1, x33, x402000, x402001, x402002, x402003, x403000, x403001, x403002, x403003 => if x33 = true then (some false) else (minstrelref19_Same.l0 k 0 x402000 x402001 x402002 x402003 x403000 x403001 x403002 x403003)
def minstrelref19_Same.l0 : Nat → Int → Int → Int → ByteArray → List Int → Int → Int → ByteArray → List Int → Option (Bool)
 | 0, _, _, _, _, _, _, _, _, _ => none
 | k + 1, x5, x402000, x402001, x402002, x402003, x403000, x403001, x403002, x403003 => if x5 < (x402003.length : Int) then (if 0 ≤ x5 then (if x5 < (x403003.length : Int) then (if (rd x402003 x5) = (rd x403003 x5) then (minstrelref19_Same.l0 k (wrap64 (x5 + 1)) x402000 x402001 x402002 x402003 x403000 x403001 x403002 x403003) else (some false)) else (none)) else (none)) else (some true)
end
def minstrelref19_Same.f (k : Nat) (a0_0 : Int) (a0_1 : Int) (a0_2 : ByteArray) (l0_3 : List Int) (a1_0 : Int) (a1_1 : Int) (a1_2 : ByteArray) (l1_3 : List Int) : Option (Bool) := if a0_0 = a1_0 then (if a0_1 = a1_1 then (if a0_2.toList = a1_2.toList then (minstrelref19_Same.j0 k ((l0_3.length : Int) != (l1_3.length : Int)) a0_0 a0_1 a0_2 l0_3 a1_0 a1_1 a1_2 l1_3) else (minstrelref19_Same.j0 k true a0_0 a0_1 a0_2 l0_3 a1_0 a1_1 a1_2 l1_3)) else (minstrelref19_Same.j0 k true a0_0 a0_1 a0_2 l0_3 a1_0 a1_1 a1_2 l1_3)) else (minstrelref19_Same.j0 k true a0_0 a0_1 a0_2 l0_3 a1_0 a1_1 a1_2 l1_3)
set_option maxHeartbeats 8000000 in
set_option maxRecDepth 100000 in
theorem minstrelref19_Same.calls (k : Nat) (a0_0 : Int) (a0_1 : Int) (a0_2 : ByteArray) (A0_3 : Option Addr) (c0_3 : Nat) (l0_3 : List Int) (a1_0 : Int) (a1_1 : Int) (a1_2 : ByteArray) (A1_3 : Option Addr) (c1_3 : Nat) (l1_3 : List Int) (r : Bool) (w : World) (hr0_3 : Kd.C (Kd.int .i64) w A0_3 l0_3.length l0_3) (hc0_3 : l0_3.length ≤ c0_3) (hr1_3 : Kd.C (Kd.int .i64) w A1_3 l1_3.length l1_3) (hc1_3 : l1_3.length ≤ c1_3) (h : minstrelref19_Same.f k a0_0 a0_1 a0_2 l0_3 a1_0 a1_1 a1_2 l1_3 = some r) :
  Calls Tryd.prog 23 #[.agg #[.int .u64 a0_0, .int .i64 a0_1, .string a0_2, .slice A0_3 l0_3.length c0_3], .agg #[.int .u64 a1_0, .int .i64 a1_1, .string a1_2, .slice A1_3 l1_3.length c1_3]] w fun e w' => e = .returned (.bool r) ∧ Below w.heap.size w w' := by
 have hu46 := Tryd.underlying46
 have HR0_3 := am hr0_3
 have HC0_3 := am hc0_3
 clear hr0_3 hc0_3
 have HR1_3 := am hr1_3
 have HC1_3 := am hc1_3
 clear hr1_3 hc1_3
 have HB := am (Below.refl w.heap.size w)
 have H : (if a0_0 = a1_0 then (if a0_1 = a1_1 then (if a0_2.toList = a1_2.toList then (minstrelref19_Same.j0 k ((l0_3.length : Int) != (l1_3.length : Int)) a0_0 a0_1 a0_2 l0_3 a1_0 a1_1 a1_2 l1_3) else (minstrelref19_Same.j0 k true a0_0 a0_1 a0_2 l0_3 a1_0 a1_1 a1_2 l1_3)) else (minstrelref19_Same.j0 k true a0_0 a0_1 a0_2 l0_3 a1_0 a1_1 a1_2 l1_3)) else (minstrelref19_Same.j0 k true a0_0 a0_1 a0_2 l0_3 a1_0 a1_1 a1_2 l1_3)) = some r := h
 clear h
 have HC3 := am H
 clear H
 go_enter Tryd.func23, Tryd.ntmps23
 go_upto_region 1 with (first | ((with_reducible refine gate_dst (N := 2) rfl ?_); (try (refine gate_guard (by rfl) ?_; dsimp only)); refine box_event ?hg (N := 2) ?hd (cs := #[.int .u64 a0_0, .int .i64 a0_1, .string a0_2, .slice A0_3 l0_3.length c0_3]) (t := 46) ?hr ?_; (case hd => rfl); (case hg => rfl); (case hr => first | (go_simp; done) | (go_simp; rfl)); intro gb401 hg w4 hbox hb; have BK401 := am (hbox); have GW401 := am ((by rw [hg]; exact (below_size pB) : w.heap.size ≤ gb401)); have GE401 := am ((by rw [hg]; exact (below_size pB) : w.heap.size ≤ gb401)); replace HB := am (below_step pB hb); clear hb hbox hg) | ((with_reducible refine gate_dst (N := 3) rfl ?_); (try (refine gate_guard (by rfl) ?_; dsimp only)); refine box_event ?hg (N := 3) ?hd (cs := #[.int .u64 a1_0, .int .i64 a1_1, .string a1_2, .slice A1_3 l1_3.length c1_3]) (t := 46) ?hr ?_; (case hd => rfl); (case hg => rfl); (case hr => first | (go_simp; done) | (go_simp; rfl)); intro gb402 hg w5 hbox hb; have BK402 := am (hbox); have GW402 := am ((by rw [hg]; exact (below_size pB) : w.heap.size ≤ gb402)); have GE402 := am ((by rw [hg]; exact (below_size pB) : w.heap.size ≤ gb402)); have NB401_402 := am ((by rw [hg]; exact Nat.ne_of_lt (pkl BK401.out) : gb401 ≠ gb402)); have NB402_401 := am ((by rw [hg]; exact Nat.ne_of_gt (pkl BK401.out) : gb402 ≠ gb401)); replace BK401 := am (pkb BK401.out hb); replace HB := am (below_step pB hb); clear hb hbox hg))
 repeat (go_quiet (first | ((with_reducible refine gate_dst (N := 2) rfl ?_); (try (refine gate_guard (by rfl) ?_; dsimp only)); refine box_event ?hg (N := 2) ?hd (cs := #[.int .u64 a0_0, .int .i64 a0_1, .string a0_2, .slice A0_3 l0_3.length c0_3]) (t := 46) ?hr ?_; (case hd => rfl); (case hg => rfl); (case hr => first | (go_simp; done) | (go_simp; rfl)); intro gb401 hg w4 hbox hb; have BK401 := am (hbox); have GW401 := am ((by rw [hg]; exact (below_size pB) : w.heap.size ≤ gb401)); have GE401 := am ((by rw [hg]; exact (below_size pB) : w.heap.size ≤ gb401)); replace HB := am (below_step pB hb); clear hb hbox hg) | ((with_reducible refine gate_dst (N := 3) rfl ?_); (try (refine gate_guard (by rfl) ?_; dsimp only)); refine box_event ?hg (N := 3) ?hd (cs := #[.int .u64 a1_0, .int .i64 a1_1, .string a1_2, .slice A1_3 l1_3.length c1_3]) (t := 46) ?hr ?_; (case hd => rfl); (case hg => rfl); (case hr => first | (go_simp; done) | (go_simp; rfl)); intro gb402 hg w5 hbox hb; have BK402 := am (hbox); have GW402 := am ((by rw [hg]; exact (below_size pB) : w.heap.size ≤ gb402)); have GE402 := am ((by rw [hg]; exact (below_size pB) : w.heap.size ≤ gb402)); have NB401_402 := am ((by rw [hg]; exact Nat.ne_of_lt (pkl BK401.out) : gb401 ≠ gb402)); have NB402_401 := am ((by rw [hg]; exact Nat.ne_of_gt (pkl BK401.out) : gb402 ≠ gb401)); replace BK401 := am (pkb BK401.out hb); replace HB := am (below_step pB hb); clear hb hbox hg)); go_upto_region 1 with (first | ((with_reducible refine gate_dst (N := 2) rfl ?_); (try (refine gate_guard (by rfl) ?_; dsimp only)); refine box_event ?hg (N := 2) ?hd (cs := #[.int .u64 a0_0, .int .i64 a0_1, .string a0_2, .slice A0_3 l0_3.length c0_3]) (t := 46) ?hr ?_; (case hd => rfl); (case hg => rfl); (case hr => first | (go_simp; done) | (go_simp; rfl)); intro gb401 hg w4 hbox hb; have BK401 := am (hbox); have GW401 := am ((by rw [hg]; exact (below_size pB) : w.heap.size ≤ gb401)); have GE401 := am ((by rw [hg]; exact (below_size pB) : w.heap.size ≤ gb401)); replace HB := am (below_step pB hb); clear hb hbox hg) | ((with_reducible refine gate_dst (N := 3) rfl ?_); (try (refine gate_guard (by rfl) ?_; dsimp only)); refine box_event ?hg (N := 3) ?hd (cs := #[.int .u64 a1_0, .int .i64 a1_1, .string a1_2, .slice A1_3 l1_3.length c1_3]) (t := 46) ?hr ?_; (case hd => rfl); (case hg => rfl); (case hr => first | (go_simp; done) | (go_simp; rfl)); intro gb402 hg w5 hbox hb; have BK402 := am (hbox); have GW402 := am ((by rw [hg]; exact (below_size pB) : w.heap.size ≤ gb402)); have GE402 := am ((by rw [hg]; exact (below_size pB) : w.heap.size ≤ gb402)); have NB401_402 := am ((by rw [hg]; exact Nat.ne_of_lt (pkl BK401.out) : gb401 ≠ gb402)); have NB402_401 := am ((by rw [hg]; exact Nat.ne_of_gt (pkl BK401.out) : gb402 ≠ gb401)); replace BK401 := am (pkb BK401.out hb); replace HB := am (below_step pB hb); clear hb hbox hg)))
 (try simp only [Act.put, List.setIfInBounds_toArray, List.set_cons_zero, List.set_cons_succ])
 go_cut [33] (fun v33 wc => ∃ (kq : Nat) (x33_2 : Bool), v33 = .bool x33_2 ∧ Aside0 (minstrelref19_Same.j0 kq x33_2 a0_0 a0_1 a0_2 l0_3 a1_0 a1_1 a1_2 l1_3 = some r) ∧ Aside0 (kq ≤ k) ∧ Aside0 (wc.heap[gb401]? = some (.cells #[.int .u64 a0_0, .int .i64 a0_1, .string a0_2, (.slice A0_3 l0_3.length c0_3)] 46 (0, 0))) ∧ Aside0 (wc.heap[gb402]? = some (.cells #[.int .u64 a1_0, .int .i64 a1_1, .string a1_2, (.slice A1_3 l1_3.length c1_3)] 46 (0, 0))) ∧ Aside0 (Below w.heap.size w wc))
 case first =>
  have H := HC3.out
  clear HC3
  by_cases c6 : a0_0 = a1_0
  ·rw [if_pos c6] at H
   have c6b0 : (a0_0 == a1_0) = true := beq_iff_eq.mpr c6
   have c6b1 : (a0_0 != a1_0) = false := bne_eq_false_iff_eq.mpr c6
   clear c6
   (first | rw [c6b0] | (simp only [i64_w, i32_w]; rw [c6b0]) | rw [c6b1] | (simp only [i64_w, i32_w]; rw [c6b1]) | skip)
   by_cases c7 : a0_1 = a1_1
   ·rw [if_pos c7] at H
    have c7b0 : (a0_1 == a1_1) = true := beq_iff_eq.mpr c7
    have c7b1 : (a0_1 != a1_1) = false := bne_eq_false_iff_eq.mpr c7
    clear c7
    by_cases c8 : a0_2.toList = a1_2.toList
    ·rw [if_pos c8] at H
     have c8b0 : (a0_2.toList == a1_2.toList) = true := beq_iff_eq.mpr c8
     have c8b1 : (a0_2.toList != a1_2.toList) = false := bne_eq_false_iff_eq.mpr c8
     clear c8
     have H' := am H
     clear H
     have hnb9 := NB401_402.out
     have hnc9 := NB402_401.out
     have q10 := cf4 BK401.out
     have q11 := cf4 BK402.out
     go_wp2
     repeat (go_quiet (fail); try go_wp2)
     go_meet
     case rel => exact ⟨_, (((l0_3.length : Int) != (l1_3.length : Int))), (by first | rfl | (simp; done) | (simp [*]; done)), H', ⟨by first | omega | exact Nat.le_refl _⟩, ⟨by (with_reducible repeat (first | refine blk_drewN ?_ _ | refine blk_drew ?_ | refine blk_alloc ?_ _)); exact BK401.out⟩, ⟨by (with_reducible repeat (first | refine blk_drewN ?_ _ | refine blk_drew ?_ | refine blk_alloc ?_ _)); exact BK402.out⟩, ⟨pB⟩⟩
    ·rw [if_neg c8] at H
     have c8b0 : (a0_2.toList == a1_2.toList) = false := beq_eq_false_iff_ne.mpr c8
     have c8b1 : (a0_2.toList != a1_2.toList) = true := bne_iff_ne.mpr c8
     have H' := am H
     clear H
     have hnb12 := NB401_402.out
     have hnc12 := NB402_401.out
     obtain ⟨hcz13_0, hcz13_1, hcz13_2, hcz13_3, hfz13_0, hfz13_1, hfz13_2, hfz13_3⟩ := cf4 BK401.out
     obtain ⟨hcz14_0, hcz14_1, hcz14_2, hcz14_3, hfz14_0, hfz14_1, hfz14_2, hfz14_3⟩ := cf4 BK402.out
     go_wp2
     repeat (go_quiet (fail); try go_wp2)
     go_meet
     case rel => exact ⟨_, (true), (by first | rfl | (simp; done) | (simp [*]; done)), H', ⟨by first | omega | exact Nat.le_refl _⟩, ⟨by (with_reducible repeat (first | refine blk_drewN ?_ _ | refine blk_drew ?_ | refine blk_alloc ?_ _)); exact BK401.out⟩, ⟨by (with_reducible repeat (first | refine blk_drewN ?_ _ | refine blk_drew ?_ | refine blk_alloc ?_ _)); exact BK402.out⟩, ⟨pB⟩⟩
   ·rw [if_neg c7] at H
    have c7b0 : (a0_1 == a1_1) = false := beq_eq_false_iff_ne.mpr c7
    have c7b1 : (a0_1 != a1_1) = true := bne_iff_ne.mpr c7
    have H' := am H
    clear H
    have hnb15 := NB401_402.out
    have hnc15 := NB402_401.out
    obtain ⟨hcz16_0, hcz16_1, hcz16_2, hcz16_3, hfz16_0, hfz16_1, hfz16_2, hfz16_3⟩ := cf4 BK401.out
    obtain ⟨hcz17_0, hcz17_1, hcz17_2, hcz17_3, hfz17_0, hfz17_1, hfz17_2, hfz17_3⟩ := cf4 BK402.out
    go_wp2
    repeat (go_quiet (fail); try go_wp2)
    go_meet
    case rel => exact ⟨_, (true), (by first | rfl | (simp; done) | (simp [*]; done)), H', ⟨by first | omega | exact Nat.le_refl _⟩, ⟨by (with_reducible repeat (first | refine blk_drewN ?_ _ | refine blk_drew ?_ | refine blk_alloc ?_ _)); exact BK401.out⟩, ⟨by (with_reducible repeat (first | refine blk_drewN ?_ _ | refine blk_drew ?_ | refine blk_alloc ?_ _)); exact BK402.out⟩, ⟨pB⟩⟩
  ·rw [if_neg c6] at H
   have c6b0 : (a0_0 == a1_0) = false := beq_eq_false_iff_ne.mpr c6
   have c6b1 : (a0_0 != a1_0) = true := bne_iff_ne.mpr c6
   (first | rw [c6b0] | (simp only [i64_w, i32_w]; rw [c6b0]) | rw [c6b1] | (simp only [i64_w, i32_w]; rw [c6b1]) | skip)
   have H' := am H
   clear H
   have hnb18 := NB401_402.out
   have hnc18 := NB402_401.out
   obtain ⟨hcz19_0, hcz19_1, hcz19_2, hcz19_3, hfz19_0, hfz19_1, hfz19_2, hfz19_3⟩ := cf4 BK401.out
   obtain ⟨hcz20_0, hcz20_1, hcz20_2, hcz20_3, hfz20_0, hfz20_1, hfz20_2, hfz20_3⟩ := cf4 BK402.out
   go_wp2
   repeat (go_quiet (fail); try go_wp2)
   go_meet
   case rel => exact ⟨_, (true), (by first | rfl | (simp; done) | (simp [*]; done)), H', ⟨by first | omega | exact Nat.le_refl _⟩, ⟨by (with_reducible repeat (first | refine blk_drewN ?_ _ | refine blk_drew ?_ | refine blk_alloc ?_ _)); exact BK401.out⟩, ⟨by (with_reducible repeat (first | refine blk_drewN ?_ _ | refine blk_drew ?_ | refine blk_alloc ?_ _)); exact BK402.out⟩, ⟨pB⟩⟩
 case rest =>
  clear HC3
  try clear c1
  try clear c2
  try clear p2
  try clear c6
  try clear c6b0
  try clear c6b1
  try clear c7
  try clear c7b0
  try clear c7b1
  try clear c8
  try clear c8b0
  try clear c8b1
  try clear c9
  try clear c12
  try clear c15
  try clear c18
  try clear q10 q11 hcz13_0 hcz13_1 hcz13_2 hcz13_3 hcz14_0 hcz14_1 hcz14_2 hcz14_3 hcz16_0 hcz16_1 hcz16_2 hcz16_3 hcz17_0 hcz17_1 hcz17_2 hcz17_3 hcz19_0 hcz19_1 hcz19_2 hcz19_3 hcz20_0 hcz20_1 hcz20_2 hcz20_3 hfz13_0 hfz13_1 hfz13_2 hfz13_3 hfz14_0 hfz14_1 hfz14_2 hfz14_3 hfz16_0 hfz16_1 hfz16_2 hfz16_3 hfz17_0 hfz17_1 hfz17_2 hfz17_3 hfz19_0 hfz19_1 hfz19_2 hfz19_3 hfz20_0 hfz20_1 hfz20_2 hfz20_3
  obtain ⟨kq, x33_2, rfl, HA, HJ2, BK401, BK402, HB⟩ := hcut
  cases kq with
  | zero => exact absurd HA.out (by simp [minstrelref19_Same.j0])
  | succ kj2 =>
   have H := HA.out
   clear HA
   simp only [minstrelref19_Same.j0] at H
   by_cases c21 : x33_2 = true
   ·subst c21
    rw [if_pos rfl] at H
    obtain rfl := Option.some.inj H
    go_wp2
    repeat (go_quiet (fail); try go_wp2)
    go_ret
    exact ⟨pE, pB⟩
   ·replace c21 := Bool.eq_false_iff.mpr c21
    subst c21
    rw [if_neg (show ¬ (false = true) by decide)] at H
    have H' := am H
    clear H
    go_wp2
    repeat (go_quiet (fail); try go_wp2)
    go_loopg [5] kj2 (fun kq v5 w' => ∃ (x5_2 : Int), v5 = .int .i64 x5_2 ∧ Aside0 (minstrelref19_Same.l0 kq x5_2 a0_0 a0_1 a0_2 l0_3 a1_0 a1_1 a1_2 l1_3 = some r) ∧ Aside0 (kq ≤ kj2) ∧ Aside0 (w'.heap[gb401]? = some (.cells #[.int .u64 a0_0, .int .i64 a0_1, .string a0_2, (.slice A0_3 l0_3.length c0_3)] 46 (0, 0))) ∧ Aside0 (w'.heap[gb402]? = some (.cells #[.int .u64 a1_0, .int .i64 a1_1, .string a1_2, (.slice A1_3 l1_3.length c1_3)] 46 (0, 0))) ∧ Aside0 (Below w.heap.size w w'))
    case atStart => exact ⟨(0), (by first | rfl | (simp; done) | (simp [*]; done)), H', ⟨Nat.le_refl _⟩, ⟨by (with_reducible repeat (first | refine blk_drewN ?_ _ | refine blk_drew ?_ | refine blk_alloc ?_ _)); exact BK401.out⟩, ⟨by (with_reducible repeat (first | refine blk_drewN ?_ _ | refine blk_drew ?_ | refine blk_alloc ?_ _)); exact BK402.out⟩, ⟨pB⟩⟩
    case round =>
     clear H'
     try clear c1
     try clear c2
     try clear p2
     try clear c6
     try clear c6b0
     try clear c6b1
     try clear c7
     try clear c7b0
     try clear c7b1
     try clear c8
     try clear c8b0
     try clear c8b1
     try clear c9
     try clear c12
     try clear c15
     try clear c18
     try clear c21
     try clear q10 q11 hcz13_0 hcz13_1 hcz13_2 hcz13_3 hcz14_0 hcz14_1 hcz14_2 hcz14_3 hcz16_0 hcz16_1 hcz16_2 hcz16_3 hcz17_0 hcz17_1 hcz17_2 hcz17_3 hcz19_0 hcz19_1 hcz19_2 hcz19_3 hcz20_0 hcz20_1 hcz20_2 hcz20_3 hfz13_0 hfz13_1 hfz13_2 hfz13_3 hfz14_0 hfz14_1 hfz14_2 hfz14_3 hfz16_0 hfz16_1 hfz16_2 hfz16_3 hfz17_0 hfz17_1 hfz17_2 hfz17_3 hfz19_0 hfz19_1 hfz19_2 hfz19_3 hfz20_0 hfz20_1 hfz20_2 hfz20_3
     try clear p2
     obtain ⟨x5_2, rfl, HA, HK2, BK401, BK402, HB⟩ := hrel
     cases gk with
     | zero => exact absurd HA.out (by simp [minstrelref19_Same.l0])
     | succ k2 =>
      have H := HA.out
      clear HA
      simp only [minstrelref19_Same.l0] at H
      by_cases c22 : x5_2 < (l0_3.length : Int)
      ·rw [if_pos c22] at H
       have c22b0 : decide (x5_2 < (l0_3.length : Int)) = true := decide_eq_true c22
       clear c22
       by_cases c23 : 0 ≤ x5_2
       ·rw [if_pos c23] at H
        have c23b0 : decide (0 ≤ x5_2) = true := decide_eq_true c23
        clear c23
        by_cases c24 : x5_2 < (l1_3.length : Int)
        ·rw [if_pos c24] at H
         have c24b0 : decide (x5_2 < (l1_3.length : Int)) = true := decide_eq_true c24
         clear c24
         by_cases c25 : (rd l0_3 x5_2) = (rd l1_3 x5_2)
         ·rw [if_pos c25] at H
          have c25b0 : ((rd l0_3 x5_2) == (rd l1_3 x5_2)) = true := beq_iff_eq.mpr c25
          have c25b1 : ((rd l0_3 x5_2) != (rd l1_3 x5_2)) = false := bne_eq_false_iff_eq.mpr c25
          clear c25
          have H' := am H
          clear H
          have hnb26 := NB401_402.out
          have hnc26 := NB402_401.out
          have q27 := cf4 BK401.out
          have p403 : 0 ≤ (x5_2 : Int) := pD
          have q403 : x5_2 < (l0_3.length : Int) := pD
          obtain ⟨ad403, e403, hx403_0⟩ := Kd.at_int HR0_3.out x5_2 p403 q403
          cases e403
          replace hx403_0 := (HB.out.cell (World.block_lt_of_cell? w _ hx403_0)).trans hx403_0
          replace p403 := eq_true p403
          replace q403 := eq_true q403
          obtain ⟨hcz28_0, hcz28_1, hcz28_2, hcz28_3, hfz28_0, hfz28_1, hfz28_2, hfz28_3⟩ := cf4 BK402.out
          have p404 : 0 ≤ (x5_2 : Int) := pD
          have q404 : x5_2 < (l1_3.length : Int) := pD
          obtain ⟨ad404, e404, hx404_0⟩ := Kd.at_int HR1_3.out x5_2 p404 q404
          cases e404
          replace hx404_0 := (HB.out.cell (World.block_lt_of_cell? w _ hx404_0)).trans hx404_0
          replace p404 := eq_true p404
          replace q404 := eq_true q404
          go_wp2
          repeat (go_quiet (fail); try go_wp2)
          go_roundg k2
          case measure => have := HJ2.out; have := HK2.out; omega
          case rel => exact ⟨(wrap64 (x5_2 + 1)), (by first | rfl | (simp; done) | (simp [*]; done)), H', ⟨by have := HJ2.out; have := HK2.out; omega⟩, ⟨by (with_reducible repeat (first | refine blk_drewN ?_ _ | refine blk_drew ?_ | refine blk_alloc ?_ _)); exact BK401.out⟩, ⟨by (with_reducible repeat (first | refine blk_drewN ?_ _ | refine blk_drew ?_ | refine blk_alloc ?_ _)); exact BK402.out⟩, ⟨pB⟩⟩
         ·rw [if_neg c25] at H
          have c25b0 : ((rd l0_3 x5_2) == (rd l1_3 x5_2)) = false := beq_eq_false_iff_ne.mpr c25
          have c25b1 : ((rd l0_3 x5_2) != (rd l1_3 x5_2)) = true := bne_iff_ne.mpr c25
          obtain rfl := Option.some.inj H
          have hnb29 := NB401_402.out
          have hnc29 := NB402_401.out
          have q30 := cf4 BK401.out
          have p403 : 0 ≤ (x5_2 : Int) := pD
          have q403 : x5_2 < (l0_3.length : Int) := pD
          obtain ⟨ad403, e403, hx403_0⟩ := Kd.at_int HR0_3.out x5_2 p403 q403
          cases e403
          replace hx403_0 := (HB.out.cell (World.block_lt_of_cell? w _ hx403_0)).trans hx403_0
          replace p403 := eq_true p403
          replace q403 := eq_true q403
          have q31 := cf4 BK402.out
          have p404 : 0 ≤ (x5_2 : Int) := pD
          have q404 : x5_2 < (l1_3.length : Int) := pD
          obtain ⟨ad404, e404, hx404_0⟩ := Kd.at_int HR1_3.out x5_2 p404 q404
          cases e404
          replace hx404_0 := (HB.out.cell (World.block_lt_of_cell? w _ hx404_0)).trans hx404_0
          replace p404 := eq_true p404
          replace q404 := eq_true q404
          go_wp2
          repeat (go_quiet (fail); try go_wp2)
          go_ret
          exact ⟨pE, pB⟩
        ·rw [if_neg c24] at H
         exact absurd H (by simp)
       ·rw [if_neg c23] at H
        exact absurd H (by simp)
      ·rw [if_neg c22] at H
       have c22b0 : decide (x5_2 < (l0_3.length : Int)) = false := decide_eq_false c22
       clear c22
       obtain rfl := Option.some.inj H
       have hnb32 := NB401_402.out
       have hnc32 := NB402_401.out
       have q33 := cf4 BK401.out
       go_wp2
       repeat (go_quiet (fail); try go_wp2)
       go_ret
       exact ⟨pE, pB⟩
end Go.Proofs.YtlkaffbgekbcfaaDoor.Pr
end
section
namespace Go.Proofs.YtlkaffbgekbcfaaDoor.Pr
open Go.RowKit Go.Proofs.YtlkaffbgekbcfaaDoorW.PrintWords Go.Proofs.YtlkaffbgekbcfaaDoorW.PrintLast Go.Proofs.YtlkaffbgekbcfaaDoorW.PrintMore
attribute [local go_sem] max2_int min2_int max_two min_two max_three min_three max_four min_four
def code_Text.f (a0 : ByteArray) : Option (Int × Int × ByteArray × (List (S26))) := some (1, 0, a0, ([] : List (S26)))
set_option maxHeartbeats 8000000 in
set_option maxRecDepth 100000 in
theorem code_Text.calls (a0 : ByteArray) (r1 : Int) (r2 : Int) (r3 : ByteArray) (r4 : List (S26)) (w : World) (h : code_Text.f a0 = some (r1, r2, r3, r4)) :
 Calls Tryd.prog 43 #[.string a0] w fun e w' => ∃ v3_ : Value, e = .returned (.agg #[.int .i64 r1, .int .u64 r2, .string r3, v3_]) ∧ Kd.R k26 26 w' w.heap.size (fun _ => True) v3_ r4 ∧ Below w.heap.size w w' := by
 have hu26 := Tryd.underlying26
 have HB := am (Below.refl w.heap.size w)
 have H : (some (1, 0, a0, ([] : List (S26)))) = some (r1, r2, r3, r4) := h
 clear h
 simp only [Option.some.injEq, Prod.mk.injEq] at H
 obtain ⟨rfl, rfl, rfl, rfl⟩ := H
 go_enter Tryd.func43, Tryd.ntmps43
 go_wp2_with (first | ((with_reducible refine gate_dst (N := 2) rfl ?_); refine box_event ?hg (N := 2) ?hd (cs := #[.int .i64 0, .int .u64 0, .string (⟨#[]⟩ : ByteArray), .slice none 0 0]) (t := 26) ?hr ?_; (case hd => rfl); (case hg => rfl); (case hr => first | (go_simp; done) | (go_simp; rfl)); intro gb688 hg w2 hbox hb; have BK688 := am (hbox); have GW688 := am ((by rw [hg]; exact (below_size pB) : w.heap.size ≤ gb688)); have GE688 := am ((by rw [hg]; exact (below_size pB) : w.heap.size ≤ gb688)); replace HB := am (below_step pB hb); clear hb hbox hg; have q3 := cf4 BK688.out))
 refine bodyPost_ret (results_cell_row rfl _ _ gb688 26 #[.int .i64 1, .int .u64 0, .string a0, .slice none 0 0] (0, 0) _ rfl (by (with_reducible repeat (first | refine blk_drewN ?_ _ | refine blk_drew ?_ | refine blk_alloc ?_ _)); refine blk_put (cs := #[.int .i64 1, .int .u64 0, .string a0, .slice none 0 0]) ?_ 3 _ rfl; (iterate 2 ((with_reducible repeat (first | refine blk_drewN ?_ _ | refine blk_drew ?_ | refine blk_alloc ?_ _)); refine blk_put (cs := #[.int .i64 1, .int .u64 0, .string (⟨#[]⟩ : ByteArray), .slice none 0 0]) ?_ _ _ rfl)); (with_reducible repeat (first | refine blk_drewN ?_ _ | refine blk_drew ?_ | refine blk_alloc ?_ _)); refine blk_put (cs := #[.int .i64 0, .int .u64 0, .string (⟨#[]⟩ : ByteArray), .slice none 0 0]) ?_ 0 _ rfl; (with_reducible repeat (first | refine blk_drewN ?_ _ | refine blk_drew ?_ | refine blk_alloc ?_ _)); exact BK688.out) Tryd.underlying26 rfl (by kernel_rfl)) rfl ?_
 exact ⟨_, pE, pZ, pB⟩
end Go.Proofs.YtlkaffbgekbcfaaDoor.Pr
end
section
namespace Go.Proofs.YtlkaffbgekbcfaaDoor.Pr
open Go.RowKit Go.Proofs.YtlkaffbgekbcfaaDoorW.PrintWords Go.Proofs.YtlkaffbgekbcfaaDoorW.PrintLast Go.Proofs.YtlkaffbgekbcfaaDoorW.PrintMore
attribute [local go_sem] max2_int min2_int max_two min_two max_three min_three max_four min_four
def snap_EntryCell.f (k : Nat) (a0_0 : Int) (a0_1 : Int) (a0_2 : ByteArray) (l0_3 : List Int) : Option (Int × Int × ByteArray × (List (S26)) × Int) := (code_Number.f a0_0).bind fun bt691 => ((code_Number.f (IntKind.u64.wrap (a0_1))).bind fun bt697 => ((some (([(⟨bt691.1, bt691.2.1, bt691.2.2.1, bt691.2.2.2⟩ : S26), (⟨bt697.1, bt697.2.1, bt697.2.2.1, bt697.2.2.2⟩ : S26)] : List (S26)) : List (S26))).bind fun y703 => (if a0_1 = 0 then (some (2, 0, (⟨#[]⟩ : ByteArray), y703, 0)) else (if a0_1 = 1 then (if (a0_2.size : Int) > 65536 then (some (0, 0, (⟨#[]⟩ : ByteArray), ([] : List (S26)), 2)) else ((code_Text.f a0_2).bind fun bt706 => (if y703.length < 2513169434916 then (some (2, 0, (⟨#[]⟩ : ByteArray), (y703 ++ [(⟨bt706.1, bt706.2.1, bt706.2.2.1, bt706.2.2.2⟩ : S26)]), 0)) else (none)))) else (if a0_1 = 2 then ((snap_can.f k l0_3).bind fun t715 => (if t715 = true then ((snap_members.f k l0_3).bind fun bt716 => (if y703.length < 2513169434916 then (some (2, 0, (⟨#[]⟩ : ByteArray), (y703 ++ [(⟨bt716.1, bt716.2.1, bt716.2.2.1, bt716.2.2.2⟩ : S26)]), 0)) else (none))) else (some (0, 0, (⟨#[]⟩ : ByteArray), ([] : List (S26)), 1)))) else (some (0, 0, (⟨#[]⟩ : ByteArray), ([] : List (S26)), 1)))))))
def snap_EntryCell.T1 : Bool × List (List Nat × List Nat) := (true, [([], []), ([0], [0]), ([1], [1]), ([], []), ([3], [3]), ([4], [4]), ([5, 2], [5]), ([2, 6], [2, 6]), ([7, 6, 0, 1, 2, 3, 4, 5, 6, 7], [7])])
def snap_EntryCell.B1 : List Nat := [0, 1, 3, 0, 8, 24, 63, 127, 255]
theorem snap_EntryCell.tab1 : rtab .any (opsOf Tryd.f17 1) = snap_EntryCell.T1 := by kernel_rfl
theorem snap_EntryCell.bits1 : waitsOk snap_EntryCell.T1.2 snap_EntryCell.B1 = true := by kernel_rfl
set_option maxHeartbeats 8000000 in
set_option maxRecDepth 100000 in
theorem snap_EntryCell.calls (k : Nat) (a0_0 : Int) (a0_1 : Int) (a0_2 : ByteArray) (A0_3 : Option Addr) (c0_3 : Nat) (l0_3 : List Int) (r1 : Int) (r2 : Int) (r3 : ByteArray) (r4 : List (S26)) (r5 : Int) (w : World) (hr0_3 : Kd.C (Kd.int .i64) w A0_3 l0_3.length l0_3) (hc0_3 : l0_3.length ≤ c0_3) (h : snap_EntryCell.f k a0_0 a0_1 a0_2 l0_3 = some (r1, r2, r3, r4, r5)) :
  Calls Tryd.prog 17 #[.agg #[.int .u64 a0_0, .int .i64 a0_1, .string a0_2, .slice A0_3 l0_3.length c0_3]] w fun e w' => ∃ v3_ : Value, e = .returned (.tuple #[.agg #[.int .i64 r1, .int .u64 r2, .string r3, v3_], .int .i64 r5]) ∧ Kd.N k26 26 w' w.heap.size (fun k_ => (w.heap.size ≤ k_)) v3_ r4 ∧ Below w.heap.size w w' := by
 have hu46 := Tryd.underlying46
 have hu26 := Tryd.underlying26
 have HR0_3 := am hr0_3
 have HC0_3 := am hc0_3
 clear hr0_3 hc0_3
 have HB := am (Below.refl w.heap.size w)
 have H : ((code_Number.f a0_0).bind fun bt691 => ((code_Number.f (IntKind.u64.wrap (a0_1))).bind fun bt697 => ((some (([(⟨bt691.1, bt691.2.1, bt691.2.2.1, bt691.2.2.2⟩ : S26), (⟨bt697.1, bt697.2.1, bt697.2.2.1, bt697.2.2.2⟩ : S26)] : List (S26)) : List (S26))).bind fun y703 => (if a0_1 = 0 then (some (2, 0, (⟨#[]⟩ : ByteArray), y703, 0)) else (if a0_1 = 1 then (if (a0_2.size : Int) > 65536 then (some (0, 0, (⟨#[]⟩ : ByteArray), ([] : List (S26)), 2)) else ((code_Text.f a0_2).bind fun bt706 => (if y703.length < 2513169434916 then (some (2, 0, (⟨#[]⟩ : ByteArray), (y703 ++ [(⟨bt706.1, bt706.2.1, bt706.2.2.1, bt706.2.2.2⟩ : S26)]), 0)) else (none)))) else (if a0_1 = 2 then ((snap_can.f k l0_3).bind fun t715 => (if t715 = true then ((snap_members.f k l0_3).bind fun bt716 => (if y703.length < 2513169434916 then (some (2, 0, (⟨#[]⟩ : ByteArray), (y703 ++ [(⟨bt716.1, bt716.2.1, bt716.2.2.1, bt716.2.2.2⟩ : S26)]), 0)) else (none))) else (some (0, 0, (⟨#[]⟩ : ByteArray), ([] : List (S26)), 1)))) else (some (0, 0, (⟨#[]⟩ : ByteArray), ([] : List (S26)), 1)))))))) = some (r1, r2, r3, r4, r5) := h
 clear h
 replace H := Option.bind_eq_some_iff.mp H
 obtain ⟨⟨t691, t692, t693, t694⟩, A20, H⟩ := H
 try dsimp only at H
 have A2 := am A20
 clear A20
 replace H := Option.bind_eq_some_iff.mp H
 obtain ⟨⟨t697, t698, t699, t700⟩, A30, H⟩ := H
 try dsimp only at H
 have A3 := am A30
 clear A30
 obtain ⟨y703, hy703⟩ : ∃ y_ : List (S26), y_ = (([(⟨t691, t692, t693, t694⟩ : S26), (⟨t697, t698, t699, t700⟩ : S26)] : List (S26))) := ⟨_, rfl⟩
 replace H : (if a0_1 = 0 then (some (2, 0, (⟨#[]⟩ : ByteArray), y703, 0)) else (if a0_1 = 1 then (if (a0_2.size : Int) > 65536 then (some (0, 0, (⟨#[]⟩ : ByteArray), ([] : List (S26)), 2)) else ((code_Text.f a0_2).bind fun bt706 => (if y703.length < 2513169434916 then (some (2, 0, (⟨#[]⟩ : ByteArray), (y703 ++ [(⟨bt706.1, bt706.2.1, bt706.2.2.1, bt706.2.2.2⟩ : S26)]), 0)) else (none)))) else (if a0_1 = 2 then ((snap_can.f k l0_3).bind fun t715 => (if t715 = true then ((snap_members.f k l0_3).bind fun bt716 => (if y703.length < 2513169434916 then (some (2, 0, (⟨#[]⟩ : ByteArray), (y703 ++ [(⟨bt716.1, bt716.2.1, bt716.2.2.1, bt716.2.2.2⟩ : S26)]), 0)) else (none))) else (some (0, 0, (⟨#[]⟩ : ByteArray), ([] : List (S26)), 1)))) else (some (0, 0, (⟨#[]⟩ : ByteArray), ([] : List (S26)), 1))))) = some (r1, r2, r3, r4, r5) := by first | (rw [hy703]; with_reducible exact H) | (have H2_ := (Option.bind_some _ _).symm.trans H; rw [hy703]; with_reducible exact H2_) | (have H2_ := (Option.bind_some _ _).symm.trans H; with_reducible exact H2_) | with_reducible exact H | (rw [hy703]; exact H) | exact H
 have Ny703 := am hy703
 clear hy703
 by_cases c4 : a0_1 = 0
 ·rw [if_pos c4] at H
  have c4b0 : (a0_1 == 0) = true := beq_iff_eq.mpr c4
  have c4b1 : (a0_1 != 0) = false := bne_eq_false_iff_eq.mpr c4
  clear c4
  simp only [Option.some.injEq, Prod.mk.injEq] at H
  obtain ⟨rfl, rfl, rfl, rfl, rfl⟩ := H
  go_enter Tryd.func17, Tryd.ntmps17
  try go_wp2_with (first | ((with_reducible refine gate_dst (N := 1) rfl ?_); refine box_event ?hg (N := 1) ?hd (cs := #[.int .u64 a0_0, .int .i64 a0_1, .string a0_2, .slice A0_3 l0_3.length c0_3]) (t := 46) ?hr ?_; (case hd => rfl); (case hg => rfl); (case hr => first | (go_simp; done) | (go_simp; rfl)); intro gb689 hg w5 hbox hb; have BK689 := am (hbox); have GW689 := am ((by rw [hg]; exact (below_size pB) : w.heap.size ≤ gb689)); have GE689 := am ((by rw [hg]; exact (below_size pB) : w.heap.size ≤ gb689)); replace HB := am (below_step pB hb); clear hb hbox hg) | ((with_reducible refine gate_dst (N := 2) rfl ?_); refine box_event ?hg (N := 2) ?hd (cs := #[.int .i64 0, .int .u64 0, .string (⟨#[]⟩ : ByteArray), .slice none 0 0]) (t := 26) ?hr ?_; (case hd => rfl); (case hg => rfl); (case hr => first | (go_simp; done) | (go_simp; rfl)); intro gb690 hg w6 hbox hb; have BK690 := am (hbox); have GW690 := am ((by rw [hg]; exact (below_size pB) : w.heap.size ≤ gb690)); have GE690 := am ((by rw [hg]; exact (below_size pB) : w.heap.size ≤ gb690)); have NB689_690 := am ((by rw [hg]; exact Nat.ne_of_lt (pkl BK689.out) : gb689 ≠ gb690)); have NB690_689 := am ((by rw [hg]; exact Nat.ne_of_gt (pkl BK689.out) : gb690 ≠ gb689)); replace BK689 := am (pkb BK689.out hb); replace HB := am (below_step pB hb); clear hb hbox hg))
  replace BK689 := am (blk_drew BK689.out)
  replace BK690 := am (blk_drew BK690.out)
  replace HB := am (below_drew1 HB.out)
  refine start_ (n := 9) (S := fun w' => w'.cell? ⟨gb689, 0, none⟩ = some (.int .u64 a0_0) ∧ w'.cell? ⟨gb689, 1, none⟩ = some (.int .i64 a0_1) ∧ w'.cell? ⟨gb689, 2, none⟩ = some (.string a0_2) ∧ w'.cell? ⟨gb689, 3, none⟩ = some (.slice A0_3 l0_3.length c0_3)) (ds := []) (bm 9 0) (by kernel_rfl) rfl rfl ⟨cz0 BK689.out, cz1 BK689.out, cz2 BK689.out, cz3 BK689.out⟩ (fun hHeld => ?_); refine with_tabW snap_EntryCell.tab1 snap_EntryCell.bits1 (fun HT_ HW_ => ?_)
  generalize w6.drew = w7 at BK689 BK690 HB hHeld ⊢
  refine pure_ (i := 0) (N := some 5) (v := ?_) (a' := ?_) (bm 9 1) rfl rfl (any_of HT_.out (by kernel_rfl)) (fun _ _ _ h => h) (Or.inl ⟨by kernel_rfl, ?_⟩) ?_ ?_
  rotate_left
  ·intro w'
   go_simp
   with_reducible rfl
  rotate_left
  ·exact pA
  refine pure_ (i := 3) (N := some 8) (v := ?_) (a' := ?_) (bm 9 9) rfl rfl (any_of HT_.out (by kernel_rfl)) (fun _ _ _ h => h) (Or.inl ⟨by kernel_rfl, ?_⟩) ?_ ?_
  rotate_left
  ·intro w'
   go_simp
   with_reducible rfl
  rotate_left
  ·exact pA
  refine take_ (i := 1) (N := some 6) (v := ?_) (a' := ?_) (bm 9 11) rfl rfl (take_ofW HT_.out HW_.out (by kernel_rfl)) (fun _ _ _ h => h) (Or.inl ⟨by kernel_rfl, ?_⟩) hHeld ?_ ?_
  rotate_left
  ·rintro w' ⟨s0, s1, s2, s3⟩
   go_simp
   with_reducible rfl
  rotate_left
  ·exact pA
  refine take_ (i := 4) (N := some 9) (v := ?_) (a' := ?_) (bm 9 27) rfl rfl (take_ofW HT_.out HW_.out (by kernel_rfl)) (fun _ _ _ h => h) (Or.inl ⟨by kernel_rfl, ?_⟩) hHeld ?_ ?_
  rotate_left
  ·rintro w' ⟨s0, s1, s2, s3⟩
   go_simp
   with_reducible rfl
  rotate_left
  ·exact pA
  refine pure_ (i := 5) (N := some 10) (v := ?_) (a' := ?_) (bm 9 59) rfl rfl (any_of HT_.out (by kernel_rfl)) (fun _ _ _ h => h) (Or.inl ⟨by kernel_rfl, ?_⟩) ?_ ?_
  rotate_left
  ·intro w'
   go_simp
   with_reducible rfl
  rotate_left
  ·exact pA
  refine one_ (i := 2) (N := some 7) (bm 9 63) rfl rfl (one_of HT_.out (by kernel_rfl)) (by decide) (fun K hK => ?_)
  refine goes_ Tryd.func28 (by kernel_rfl) rfl #[.int .u64 a0_0] (by rfl) rfl rfl pM ?_
  with_reducible refine (code_Number.calls a0_0 t691 t692 t693 t694 _ A2.out).mono ?_
  rintro e w8 ⟨v695, rfl, ho0, hb⟩
  refine ⟨_, rfl, ?_⟩
  have n0_ := am (Kd.N_lower (Kd.N_mono (ok' := fun k_ => (w.heap.size ≤ k_) ∧ k_ ≠ gb689 ∧ k_ ≠ gb690) (Kd.R_N (Kd.R_bound ho0)) (fun k_ hk_ => ⟨(Nat.le_trans (below_size pB) hk_.2.1), (Kd.freshB (g := gb689) (o := .cells #[.int .u64 a0_0, .int .i64 a0_1, .string a0_2, .slice A0_3 l0_3.length c0_3] 46 (0, 0)) (pK BK689.out) k_ hk_.2.1), (Kd.freshB (g := gb690) (o := .cells #[.int .i64 0, .int .u64 0, .string (⟨#[]⟩ : ByteArray), .slice none 0 0] 26 (0, 0)) (pK BK690.out) k_ hk_.2.1)⟩)) (below_size pB))
  have n1_ := am (pkb BK689.out hb)
  have n2_ := am (pkb BK690.out hb)
  have n3_ := am (below_step pB hb)
  clear BK689 BK690 HB; have HO696 := n0_; have BK689 := n1_; have BK690 := n2_; have HB := n3_; clear n0_ n1_ n2_ n3_; (try clear hb); (try clear hb2); (try clear hk); (try clear hi); (try clear ho0)
  refine hK.out _ _ ⟨cz0 BK689.out, cz1 BK689.out, cz2 BK689.out, cz3 BK689.out⟩ (fun hHeld => ?_)
  clear hK K
  refine norm_ (a' := ?_) ?_ ?_
  rotate_left
  ·show Act.put _ (some 7) _ = _
   exact pA
  refine one_ (i := 6) (N := some 11) (bm 9 127) rfl rfl (one_of HT_.out (by kernel_rfl)) (by decide) (fun K hK => ?_)
  refine goes_ Tryd.func28 (by kernel_rfl) rfl #[.int .u64 (IntKind.u64.wrap (a0_1))] (by rfl) rfl rfl pM ?_
  with_reducible refine (code_Number.calls (IntKind.u64.wrap (a0_1)) t697 t698 t699 t700 _ A3.out).mono ?_
  rintro e w9 ⟨v701, rfl, ho0, hb⟩
  refine ⟨_, rfl, ?_⟩
  have n0_ := am (Kd.N_elder' (pN HO696.out) (by first | exact Kd.R_base ho0 | exact Kd.N_base ho0) hb)
  have n1_ := am (Kd.N_lower (Kd.N_mono (ok' := fun k_ => (w.heap.size ≤ k_) ∧ some k_ ≠ (v695 : Value).ownBlock ∧ k_ ≠ gb689 ∧ k_ ≠ gb690) (Kd.R_N (Kd.R_bound ho0)) (fun k_ hk_ => ⟨(Nat.le_trans (below_size pB) hk_.2.1), (Kd.fresh' (Kd.N_lt (pN HO696.out)) k_ hk_.2.1), (Kd.freshB (g := gb689) (o := .cells #[.int .u64 a0_0, .int .i64 a0_1, .string a0_2, .slice A0_3 l0_3.length c0_3] 46 (0, 0)) (pK BK689.out) k_ hk_.2.1), (Kd.freshB (g := gb690) (o := .cells #[.int .i64 0, .int .u64 0, .string (⟨#[]⟩ : ByteArray), .slice none 0 0] 26 (0, 0)) (pK BK690.out) k_ hk_.2.1)⟩)) (below_size pB))
  have n2_ := am (pkb BK689.out hb)
  have n3_ := am (pkb BK690.out hb)
  have n4_ := am (below_step pB hb)
  clear HO696 BK689 BK690 HB; have HO696 := n0_; have HO702 := n1_; have BK689 := n2_; have BK690 := n3_; have HB := n4_; clear n0_ n1_ n2_ n3_ n4_; (try clear hb); (try clear hb2); (try clear hk); (try clear hi); (try clear ho0)
  obtain ⟨Ao10, co10, eo10⟩ := Kd.N_slice HO696.out
  (first | subst eo10 | (injection eo10 with f1_ f2_ f3_; have f4_ := f1_.symm; have f5_ := f3_.symm; clear f1_ f2_ f3_; subst f4_; subst f5_))
  obtain ⟨Ao11, co11, eo11⟩ := Kd.N_slice HO702.out
  (first | subst eo11 | (injection eo11 with f1_ f2_ f3_; have f4_ := f1_.symm; have f5_ := f3_.symm; clear f1_ f2_ f3_; subst f4_; subst f5_))
  refine hK.out _ _ ⟨cz0 BK689.out, cz1 BK689.out, cz2 BK689.out, cz3 BK689.out⟩ (fun hHeld => ?_)
  clear hK K
  refine norm_ (a' := ?_) ?_ ?_
  rotate_left
  ·show Act.put _ (some 11) _ = _
   exact pA
  refine one_ (i := 7) (N := some 12) (bm 9 255) rfl rfl (one_of HT_.out (by kernel_rfl)) (by decide) (fun K hK => ?_)
  refine Kd.N_lit_step k26 _ 26 ?hg (N' := 12) ?hd (xs := ([(⟨t691, t692, t693, t694⟩ : S26), (⟨t697, t698, t699, t700⟩ : S26)] : List (S26))) (inner := [.int .i64 t691, .int .u64 t692, .string t693, .slice Ao10 t694.length co10, .int .i64 t697, .int .u64 t698, .string t699, .slice Ao11 t700.length co11]) (ok := (fun k_ => (w.heap.size ≤ k_) ∧ k_ ≠ gb689 ∧ k_ ≠ gb690)) (okp := (fun k_ => (w.heap.size ≤ k_) ∧ k_ ≠ gb689 ∧ k_ ≠ gb690)) ?hr ?hp (fun _ hk => hk) ((show ∀ k_, w9.heap.size ≤ k_ → (fun k_ => (w.heap.size ≤ k_) ∧ k_ ≠ gb689 ∧ k_ ≠ gb690) k_ from fun k_ hk => ⟨(Nat.le_trans (below_size pB) hk), Kd.freshB (g := gb689) (o := .cells #[.int .u64 a0_0, .int .i64 a0_1, .string a0_2, .slice A0_3 l0_3.length c0_3] 46 (0, 0)) (pK BK689.out) k_ hk, Kd.freshB (g := gb690) (o := .cells #[.int .i64 0, .int .u64 0, .string (⟨#[]⟩ : ByteArray), .slice none 0 0] 26 (0, 0)) (pK BK690.out) k_ hk⟩) _ (Nat.le_refl _)) (Below.refl _ _) (Nat.le_refl _) (by simp) ?_; (case hd => rfl); (case hg => rfl); (case hr => first | (go_simp; done) | (go_simp; rfl)); (case hp => exact (Reps.c4 (show Kd.FK k26 _ _ (⟨t691, t692, t693, t694⟩ : S26) [.int .i64 t691, .int .u64 t692, .string t693, .slice Ao10 t694.length co10] from (k26_mkF _ _ (⟨t691, t692, t693, t694⟩ : S26) (Kd.N_reads' (Kd.N_mono (ok' := (fun k_ => (w.heap.size ≤ k_) ∧ k_ ≠ gb689 ∧ k_ ≠ gb690)) (HO696.out) (fun k_ hk => ⟨hk.1.1, ⟨hk.1.2.1, hk.1.2.2⟩⟩))).2.1 (Kd.N_F (Kd.N_mono (ok' := (fun k_ => (w.heap.size ≤ k_) ∧ k_ ≠ gb689 ∧ k_ ≠ gb690)) (HO696.out) (fun k_ hk => ⟨hk.1.1, ⟨hk.1.2.1, hk.1.2.2⟩⟩))))) (Reps.c4 (show Kd.FK k26 _ _ (⟨t697, t698, t699, t700⟩ : S26) [.int .i64 t697, .int .u64 t698, .string t699, .slice Ao11 t700.length co11] from (k26_mkF _ _ (⟨t697, t698, t699, t700⟩ : S26) (Kd.N_reads' (Kd.N_mono (ok' := (fun k_ => (w.heap.size ≤ k_) ∧ k_ ≠ gb689 ∧ k_ ≠ gb690)) (HO702.out) (fun k_ hk => ⟨hk.1, ⟨hk.2.2.1, hk.2.2.2⟩⟩))).2.1 (Kd.N_F (Kd.N_mono (ok' := (fun k_ => (w.heap.size ≤ k_) ∧ k_ ≠ gb689 ∧ k_ ≠ gb690)) (HO702.out) (fun k_ hk => ⟨hk.1, ⟨hk.2.2.1, hk.2.2.2⟩⟩))))) (Reps.none _ _))))
  intro v704 w12 ho13 hb hg_ hnew_
  clear hg_ hnew_
  (first | rw [← Ny703.out] at ho13 | (simp only [Int.reduceToNat] at ho13; rw [← Ny703.out] at ho13))
  have n0_ := am (Kd.N_lower ho13 (below_size pB))
  have n1_ := am (pkb BK689.out hb)
  have n2_ := am (pkb BK690.out hb)
  have n3_ := am (below_step pB hb)
  clear BK689 BK690 HB HO696 HO702; have HO705 := n0_; have BK689 := n1_; have BK690 := n2_; have HB := n3_; clear n0_ n1_ n2_ n3_ hb ho13
  refine hK.out _ _ ⟨cz0 BK689.out, cz1 BK689.out, cz2 BK689.out, cz3 BK689.out⟩ (fun hHeld => ?_)
  clear hK K
  refine norm_ (a' := ?_) ?_ ?_
  rotate_left
  ·show Act.put _ (some 12) _ = _
   exact pA
  refine pure_ (i := 8) (N := some 4) (v := ?_) (a' := ?_) (bm 9 511) rfl rfl (any_of HT_.out (by kernel_rfl)) (fun _ _ _ h => h) (Or.inl ⟨by kernel_rfl, ?_⟩) ?_ ?_
  rotate_left
  ·intro w'
   go_simp
   with_reducible rfl
  rotate_left
  ·exact pA
  refine done_ (done_of HT_.out (by kernel_rfl)) ?_
  have hnb14 := NB689_690.out
  have hnc14 := NB690_689.out
  have q15 := cf4 BK689.out
  obtain ⟨Ao16, co16, eo16⟩ := Kd.N_slice HO705.out
  subst eo16
  have q17 := cf4 BK690.out
  try go_wp2
  refine bodyPost_ret (results_ct rfl _ _ gb690 26 #[.int .i64 2, .int .u64 0, .string (⟨#[]⟩ : ByteArray), .slice Ao16 y703.length co16] (0, 0) _ rfl (by (iterate 3 ((with_reducible repeat (first | refine blk_drewN ?_ _ | refine blk_drew ?_ | refine blk_alloc ?_ _)); refine blk_put (cs := #[.int .i64 2, .int .u64 0, .string (⟨#[]⟩ : ByteArray), .slice none 0 0]) ?_ _ _ rfl)); (with_reducible repeat (first | refine blk_drewN ?_ _ | refine blk_drew ?_ | refine blk_alloc ?_ _)); refine blk_put (cs := #[.int .i64 0, .int .u64 0, .string (⟨#[]⟩ : ByteArray), .slice none 0 0]) ?_ 0 _ rfl; (with_reducible repeat (first | refine blk_drewN ?_ _ | refine blk_drew ?_ | refine blk_alloc ?_ _)); exact BK690.out) Tryd.underlying26 rfl (by kernel_rfl)) rfl ?_
  exact ⟨_, pE, by (with_reducible repeat (first | apply Kd.N_alloc | apply Kd.N_drewN | apply Kd.N_drew)); exact Kd.N_mono (Kd.N_far (p := ⟨gb690, 3, none⟩) (Kd.N_far (p := ⟨gb690, 2, none⟩) (Kd.N_far (p := ⟨gb690, 1, none⟩) (Kd.N_far (p := ⟨gb690, 0, none⟩) (Kd.N_mono HO705.out (fun k_ hk => (⟨hk, hk.2.2⟩ : _ ∧ k_ ≠ gb690))) (fun _ hk => hk.2) (.int .i64 2)) (fun _ hk => hk.2) (.int .u64 0)) (fun _ hk => hk.2) (.string (⟨#[]⟩ : ByteArray))) (fun _ hk => hk.2) (.slice Ao16 y703.length co16)) (fun _ hk => hk.1.1), pB⟩
 ·rw [if_neg c4] at H
  have c4b0 : (a0_1 == 0) = false := beq_eq_false_iff_ne.mpr c4
  have c4b1 : (a0_1 != 0) = true := bne_iff_ne.mpr c4
  by_cases c18 : a0_1 = 1
  ·rw [if_pos c18] at H
   have c18b0 : (a0_1 == 1) = true := beq_iff_eq.mpr c18
   have c18b1 : (a0_1 != 1) = false := bne_eq_false_iff_eq.mpr c18
   clear c18
   by_cases c19 : (a0_2.size : Int) > 65536
   ·rw [if_pos c19] at H
    have c19b0 : decide (65536 < (a0_2.size : Int)) = true := decide_eq_true c19
    have c19b1 : decide (65536 < a0_2.size) = true := decide_eq_true (by omega)
    clear c19
    simp only [Option.some.injEq, Prod.mk.injEq] at H
    obtain ⟨rfl, rfl, rfl, rfl, rfl⟩ := H
    go_enter Tryd.func17, Tryd.ntmps17
    try go_wp2_with (first | ((with_reducible refine gate_dst (N := 1) rfl ?_); refine box_event ?hg (N := 1) ?hd (cs := #[.int .u64 a0_0, .int .i64 a0_1, .string a0_2, .slice A0_3 l0_3.length c0_3]) (t := 46) ?hr ?_; (case hd => rfl); (case hg => rfl); (case hr => first | (go_simp; done) | (go_simp; rfl)); intro gb689 hg w20 hbox hb; have BK689 := am (hbox); have GW689 := am ((by rw [hg]; exact (below_size pB) : w.heap.size ≤ gb689)); have GE689 := am ((by rw [hg]; exact (below_size pB) : w.heap.size ≤ gb689)); replace HB := am (below_step pB hb); clear hb hbox hg) | ((with_reducible refine gate_dst (N := 2) rfl ?_); refine box_event ?hg (N := 2) ?hd (cs := #[.int .i64 0, .int .u64 0, .string (⟨#[]⟩ : ByteArray), .slice none 0 0]) (t := 26) ?hr ?_; (case hd => rfl); (case hg => rfl); (case hr => first | (go_simp; done) | (go_simp; rfl)); intro gb690 hg w21 hbox hb; have BK690 := am (hbox); have GW690 := am ((by rw [hg]; exact (below_size pB) : w.heap.size ≤ gb690)); have GE690 := am ((by rw [hg]; exact (below_size pB) : w.heap.size ≤ gb690)); have NB689_690 := am ((by rw [hg]; exact Nat.ne_of_lt (pkl BK689.out) : gb689 ≠ gb690)); have NB690_689 := am ((by rw [hg]; exact Nat.ne_of_gt (pkl BK689.out) : gb690 ≠ gb689)); replace BK689 := am (pkb BK689.out hb); replace HB := am (below_step pB hb); clear hb hbox hg))
    replace BK689 := am (blk_drew BK689.out)
    replace BK690 := am (blk_drew BK690.out)
    replace HB := am (below_drew1 HB.out)
    refine start_ (n := 9) (S := fun w' => w'.cell? ⟨gb689, 0, none⟩ = some (.int .u64 a0_0) ∧ w'.cell? ⟨gb689, 1, none⟩ = some (.int .i64 a0_1) ∧ w'.cell? ⟨gb689, 2, none⟩ = some (.string a0_2) ∧ w'.cell? ⟨gb689, 3, none⟩ = some (.slice A0_3 l0_3.length c0_3)) (ds := []) (bm 9 0) (by kernel_rfl) rfl rfl ⟨cz0 BK689.out, cz1 BK689.out, cz2 BK689.out, cz3 BK689.out⟩ (fun hHeld => ?_); refine with_tabW snap_EntryCell.tab1 snap_EntryCell.bits1 (fun HT_ HW_ => ?_)
    generalize w21.drew = w22 at BK689 BK690 HB hHeld ⊢
    refine pure_ (i := 0) (N := some 5) (v := ?_) (a' := ?_) (bm 9 1) rfl rfl (any_of HT_.out (by kernel_rfl)) (fun _ _ _ h => h) (Or.inl ⟨by kernel_rfl, ?_⟩) ?_ ?_
    rotate_left
    ·intro w'
     go_simp
     with_reducible rfl
    rotate_left
    ·exact pA
    refine pure_ (i := 3) (N := some 8) (v := ?_) (a' := ?_) (bm 9 9) rfl rfl (any_of HT_.out (by kernel_rfl)) (fun _ _ _ h => h) (Or.inl ⟨by kernel_rfl, ?_⟩) ?_ ?_
    rotate_left
    ·intro w'
     go_simp
     with_reducible rfl
    rotate_left
    ·exact pA
    refine take_ (i := 1) (N := some 6) (v := ?_) (a' := ?_) (bm 9 11) rfl rfl (take_ofW HT_.out HW_.out (by kernel_rfl)) (fun _ _ _ h => h) (Or.inl ⟨by kernel_rfl, ?_⟩) hHeld ?_ ?_
    rotate_left
    ·rintro w' ⟨s0, s1, s2, s3⟩
     go_simp
     with_reducible rfl
    rotate_left
    ·exact pA
    refine take_ (i := 4) (N := some 9) (v := ?_) (a' := ?_) (bm 9 27) rfl rfl (take_ofW HT_.out HW_.out (by kernel_rfl)) (fun _ _ _ h => h) (Or.inl ⟨by kernel_rfl, ?_⟩) hHeld ?_ ?_
    rotate_left
    ·rintro w' ⟨s0, s1, s2, s3⟩
     go_simp
     with_reducible rfl
    rotate_left
    ·exact pA
    refine pure_ (i := 5) (N := some 10) (v := ?_) (a' := ?_) (bm 9 59) rfl rfl (any_of HT_.out (by kernel_rfl)) (fun _ _ _ h => h) (Or.inl ⟨by kernel_rfl, ?_⟩) ?_ ?_
    rotate_left
    ·intro w'
     go_simp
     with_reducible rfl
    rotate_left
    ·exact pA
    refine one_ (i := 2) (N := some 7) (bm 9 63) rfl rfl (one_of HT_.out (by kernel_rfl)) (by decide) (fun K hK => ?_)
    refine goes_ Tryd.func28 (by kernel_rfl) rfl #[.int .u64 a0_0] (by rfl) rfl rfl pM ?_
    with_reducible refine (code_Number.calls a0_0 t691 t692 t693 t694 _ A2.out).mono ?_
    rintro e w23 ⟨v695, rfl, ho0, hb⟩
    refine ⟨_, rfl, ?_⟩
    have n0_ := am (Kd.N_lower (Kd.N_mono (ok' := fun k_ => (w.heap.size ≤ k_) ∧ k_ ≠ gb689 ∧ k_ ≠ gb690) (Kd.R_N (Kd.R_bound ho0)) (fun k_ hk_ => ⟨(Nat.le_trans (below_size pB) hk_.2.1), (Kd.freshB (g := gb689) (o := .cells #[.int .u64 a0_0, .int .i64 a0_1, .string a0_2, .slice A0_3 l0_3.length c0_3] 46 (0, 0)) (pK BK689.out) k_ hk_.2.1), (Kd.freshB (g := gb690) (o := .cells #[.int .i64 0, .int .u64 0, .string (⟨#[]⟩ : ByteArray), .slice none 0 0] 26 (0, 0)) (pK BK690.out) k_ hk_.2.1)⟩)) (below_size pB))
    have n1_ := am (pkb BK689.out hb)
    have n2_ := am (pkb BK690.out hb)
    have n3_ := am (below_step pB hb)
    clear BK689 BK690 HB; have HO696 := n0_; have BK689 := n1_; have BK690 := n2_; have HB := n3_; clear n0_ n1_ n2_ n3_; (try clear hb); (try clear hb2); (try clear hk); (try clear hi); (try clear ho0)
    refine hK.out _ _ ⟨cz0 BK689.out, cz1 BK689.out, cz2 BK689.out, cz3 BK689.out⟩ (fun hHeld => ?_)
    clear hK K
    refine norm_ (a' := ?_) ?_ ?_
    rotate_left
    ·show Act.put _ (some 7) _ = _
     exact pA
    refine one_ (i := 6) (N := some 11) (bm 9 127) rfl rfl (one_of HT_.out (by kernel_rfl)) (by decide) (fun K hK => ?_)
    refine goes_ Tryd.func28 (by kernel_rfl) rfl #[.int .u64 (IntKind.u64.wrap (a0_1))] (by rfl) rfl rfl pM ?_
    with_reducible refine (code_Number.calls (IntKind.u64.wrap (a0_1)) t697 t698 t699 t700 _ A3.out).mono ?_
    rintro e w24 ⟨v701, rfl, ho0, hb⟩
    refine ⟨_, rfl, ?_⟩
    have n0_ := am (Kd.N_elder' (pN HO696.out) (by first | exact Kd.R_base ho0 | exact Kd.N_base ho0) hb)
    have n1_ := am (Kd.N_lower (Kd.N_mono (ok' := fun k_ => (w.heap.size ≤ k_) ∧ some k_ ≠ (v695 : Value).ownBlock ∧ k_ ≠ gb689 ∧ k_ ≠ gb690) (Kd.R_N (Kd.R_bound ho0)) (fun k_ hk_ => ⟨(Nat.le_trans (below_size pB) hk_.2.1), (Kd.fresh' (Kd.N_lt (pN HO696.out)) k_ hk_.2.1), (Kd.freshB (g := gb689) (o := .cells #[.int .u64 a0_0, .int .i64 a0_1, .string a0_2, .slice A0_3 l0_3.length c0_3] 46 (0, 0)) (pK BK689.out) k_ hk_.2.1), (Kd.freshB (g := gb690) (o := .cells #[.int .i64 0, .int .u64 0, .string (⟨#[]⟩ : ByteArray), .slice none 0 0] 26 (0, 0)) (pK BK690.out) k_ hk_.2.1)⟩)) (below_size pB))
    have n2_ := am (pkb BK689.out hb)
    have n3_ := am (pkb BK690.out hb)
    have n4_ := am (below_step pB hb)
    clear HO696 BK689 BK690 HB; have HO696 := n0_; have HO702 := n1_; have BK689 := n2_; have BK690 := n3_; have HB := n4_; clear n0_ n1_ n2_ n3_ n4_; (try clear hb); (try clear hb2); (try clear hk); (try clear hi); (try clear ho0)
    obtain ⟨Ao25, co25, eo25⟩ := Kd.N_slice HO696.out
    (first | subst eo25 | (injection eo25 with f1_ f2_ f3_; have f4_ := f1_.symm; have f5_ := f3_.symm; clear f1_ f2_ f3_; subst f4_; subst f5_))
    obtain ⟨Ao26, co26, eo26⟩ := Kd.N_slice HO702.out
    (first | subst eo26 | (injection eo26 with f1_ f2_ f3_; have f4_ := f1_.symm; have f5_ := f3_.symm; clear f1_ f2_ f3_; subst f4_; subst f5_))
    refine hK.out _ _ ⟨cz0 BK689.out, cz1 BK689.out, cz2 BK689.out, cz3 BK689.out⟩ (fun hHeld => ?_)
    clear hK K
    refine norm_ (a' := ?_) ?_ ?_
    rotate_left
    ·show Act.put _ (some 11) _ = _
     exact pA
    refine one_ (i := 7) (N := some 12) (bm 9 255) rfl rfl (one_of HT_.out (by kernel_rfl)) (by decide) (fun K hK => ?_)
    refine Kd.N_lit_step k26 _ 26 ?hg (N' := 12) ?hd (xs := ([(⟨t691, t692, t693, t694⟩ : S26), (⟨t697, t698, t699, t700⟩ : S26)] : List (S26))) (inner := [.int .i64 t691, .int .u64 t692, .string t693, .slice Ao25 t694.length co25, .int .i64 t697, .int .u64 t698, .string t699, .slice Ao26 t700.length co26]) (ok := (fun k_ => (w.heap.size ≤ k_) ∧ k_ ≠ gb689 ∧ k_ ≠ gb690)) (okp := (fun k_ => (w.heap.size ≤ k_) ∧ k_ ≠ gb689 ∧ k_ ≠ gb690)) ?hr ?hp (fun _ hk => hk) ((show ∀ k_, w24.heap.size ≤ k_ → (fun k_ => (w.heap.size ≤ k_) ∧ k_ ≠ gb689 ∧ k_ ≠ gb690) k_ from fun k_ hk => ⟨(Nat.le_trans (below_size pB) hk), Kd.freshB (g := gb689) (o := .cells #[.int .u64 a0_0, .int .i64 a0_1, .string a0_2, .slice A0_3 l0_3.length c0_3] 46 (0, 0)) (pK BK689.out) k_ hk, Kd.freshB (g := gb690) (o := .cells #[.int .i64 0, .int .u64 0, .string (⟨#[]⟩ : ByteArray), .slice none 0 0] 26 (0, 0)) (pK BK690.out) k_ hk⟩) _ (Nat.le_refl _)) (Below.refl _ _) (Nat.le_refl _) (by simp) ?_; (case hd => rfl); (case hg => rfl); (case hr => first | (go_simp; done) | (go_simp; rfl)); (case hp => exact (Reps.c4 (show Kd.FK k26 _ _ (⟨t691, t692, t693, t694⟩ : S26) [.int .i64 t691, .int .u64 t692, .string t693, .slice Ao25 t694.length co25] from (k26_mkF _ _ (⟨t691, t692, t693, t694⟩ : S26) (Kd.N_reads' (Kd.N_mono (ok' := (fun k_ => (w.heap.size ≤ k_) ∧ k_ ≠ gb689 ∧ k_ ≠ gb690)) (HO696.out) (fun k_ hk => ⟨hk.1.1, ⟨hk.1.2.1, hk.1.2.2⟩⟩))).2.1 (Kd.N_F (Kd.N_mono (ok' := (fun k_ => (w.heap.size ≤ k_) ∧ k_ ≠ gb689 ∧ k_ ≠ gb690)) (HO696.out) (fun k_ hk => ⟨hk.1.1, ⟨hk.1.2.1, hk.1.2.2⟩⟩))))) (Reps.c4 (show Kd.FK k26 _ _ (⟨t697, t698, t699, t700⟩ : S26) [.int .i64 t697, .int .u64 t698, .string t699, .slice Ao26 t700.length co26] from (k26_mkF _ _ (⟨t697, t698, t699, t700⟩ : S26) (Kd.N_reads' (Kd.N_mono (ok' := (fun k_ => (w.heap.size ≤ k_) ∧ k_ ≠ gb689 ∧ k_ ≠ gb690)) (HO702.out) (fun k_ hk => ⟨hk.1, ⟨hk.2.2.1, hk.2.2.2⟩⟩))).2.1 (Kd.N_F (Kd.N_mono (ok' := (fun k_ => (w.heap.size ≤ k_) ∧ k_ ≠ gb689 ∧ k_ ≠ gb690)) (HO702.out) (fun k_ hk => ⟨hk.1, ⟨hk.2.2.1, hk.2.2.2⟩⟩))))) (Reps.none _ _))))
    intro v704 w27 ho28 hb hg_ hnew_
    clear hg_ hnew_
    (first | rw [← Ny703.out] at ho28 | (simp only [Int.reduceToNat] at ho28; rw [← Ny703.out] at ho28))
    have n0_ := am (Kd.N_lower ho28 (below_size pB))
    have n1_ := am (pkb BK689.out hb)
    have n2_ := am (pkb BK690.out hb)
    have n3_ := am (below_step pB hb)
    clear BK689 BK690 HB HO696 HO702; have HO705 := n0_; have BK689 := n1_; have BK690 := n2_; have HB := n3_; clear n0_ n1_ n2_ n3_ hb ho28
    refine hK.out _ _ ⟨cz0 BK689.out, cz1 BK689.out, cz2 BK689.out, cz3 BK689.out⟩ (fun hHeld => ?_)
    clear hK K
    refine norm_ (a' := ?_) ?_ ?_
    rotate_left
    ·show Act.put _ (some 12) _ = _
     exact pA
    refine pure_ (i := 8) (N := some 4) (v := ?_) (a' := ?_) (bm 9 511) rfl rfl (any_of HT_.out (by kernel_rfl)) (fun _ _ _ h => h) (Or.inl ⟨by kernel_rfl, ?_⟩) ?_ ?_
    rotate_left
    ·intro w'
     go_simp
     with_reducible rfl
    rotate_left
    ·exact pA
    refine done_ (done_of HT_.out (by kernel_rfl)) ?_
    have hnb29 := NB689_690.out
    have hnc29 := NB690_689.out
    have q30 := cf4 BK689.out
    have q31 := cf4 BK690.out
    try go_wp2
    refine bodyPost_ret (results_ct rfl _ _ gb690 26 #[.int .i64 0, .int .u64 0, .string (⟨#[]⟩ : ByteArray), .slice none 0 0] (0, 0) _ rfl (by (iterate 4 ((with_reducible repeat (first | refine blk_drewN ?_ _ | refine blk_drew ?_ | refine blk_alloc ?_ _)); refine blk_put (cs := #[.int .i64 0, .int .u64 0, .string (⟨#[]⟩ : ByteArray), .slice none 0 0]) ?_ _ _ rfl)); (with_reducible repeat (first | refine blk_drewN ?_ _ | refine blk_drew ?_ | refine blk_alloc ?_ _)); exact BK690.out) Tryd.underlying26 rfl (by kernel_rfl)) rfl ?_
    exact ⟨_, pE, pZ, pB⟩
   ·rw [if_neg c19] at H
    have c19b0 : decide (65536 < (a0_2.size : Int)) = false := decide_eq_false c19
    have c19b1 : decide (65536 < a0_2.size) = false := decide_eq_false (by omega)
    clear c19
    replace H := Option.bind_eq_some_iff.mp H
    obtain ⟨⟨t706, t707, t708, t709⟩, A320, H⟩ := H
    try dsimp only at H
    have A32 := am A320
    clear A320
    by_cases c33 : y703.length < 2513169434916
    ·rw [if_pos c33] at H
     have LMc33 := am c33
     clear c33
     obtain ⟨y712, hy712⟩ : ∃ y_ : List (S26), y_ = (y703 ++ [(⟨t706, t707, t708, t709⟩ : S26)]) := ⟨_, rfl⟩
     replace H : (some (2, 0, (⟨#[]⟩ : ByteArray), y712, 0)) = some (r1, r2, r3, r4, r5) := by first | (rw [hy712]; with_reducible exact H) | (have H2_ := (Option.bind_some _ _).symm.trans H; rw [hy712]; with_reducible exact H2_) | (have H2_ := (Option.bind_some _ _).symm.trans H; with_reducible exact H2_) | with_reducible exact H | (rw [hy712]; exact H) | exact H
     have Ny712 := am hy712
     clear hy712
     simp only [Option.some.injEq, Prod.mk.injEq] at H
     obtain ⟨rfl, rfl, rfl, rfl, rfl⟩ := H
     go_enter Tryd.func17, Tryd.ntmps17
     try go_wp2_with (first | ((with_reducible refine gate_dst (N := 1) rfl ?_); refine box_event ?hg (N := 1) ?hd (cs := #[.int .u64 a0_0, .int .i64 a0_1, .string a0_2, .slice A0_3 l0_3.length c0_3]) (t := 46) ?hr ?_; (case hd => rfl); (case hg => rfl); (case hr => first | (go_simp; done) | (go_simp; rfl)); intro gb689 hg w34 hbox hb; have BK689 := am (hbox); have GW689 := am ((by rw [hg]; exact (below_size pB) : w.heap.size ≤ gb689)); have GE689 := am ((by rw [hg]; exact (below_size pB) : w.heap.size ≤ gb689)); replace HB := am (below_step pB hb); clear hb hbox hg) | ((with_reducible refine gate_dst (N := 2) rfl ?_); refine box_event ?hg (N := 2) ?hd (cs := #[.int .i64 0, .int .u64 0, .string (⟨#[]⟩ : ByteArray), .slice none 0 0]) (t := 26) ?hr ?_; (case hd => rfl); (case hg => rfl); (case hr => first | (go_simp; done) | (go_simp; rfl)); intro gb690 hg w35 hbox hb; have BK690 := am (hbox); have GW690 := am ((by rw [hg]; exact (below_size pB) : w.heap.size ≤ gb690)); have GE690 := am ((by rw [hg]; exact (below_size pB) : w.heap.size ≤ gb690)); have NB689_690 := am ((by rw [hg]; exact Nat.ne_of_lt (pkl BK689.out) : gb689 ≠ gb690)); have NB690_689 := am ((by rw [hg]; exact Nat.ne_of_gt (pkl BK689.out) : gb690 ≠ gb689)); replace BK689 := am (pkb BK689.out hb); replace HB := am (below_step pB hb); clear hb hbox hg))
     replace BK689 := am (blk_drew BK689.out)
     replace BK690 := am (blk_drew BK690.out)
     replace HB := am (below_drew1 HB.out)
     refine start_ (n := 9) (S := fun w' => w'.cell? ⟨gb689, 0, none⟩ = some (.int .u64 a0_0) ∧ w'.cell? ⟨gb689, 1, none⟩ = some (.int .i64 a0_1) ∧ w'.cell? ⟨gb689, 2, none⟩ = some (.string a0_2) ∧ w'.cell? ⟨gb689, 3, none⟩ = some (.slice A0_3 l0_3.length c0_3)) (ds := []) (bm 9 0) (by kernel_rfl) rfl rfl ⟨cz0 BK689.out, cz1 BK689.out, cz2 BK689.out, cz3 BK689.out⟩ (fun hHeld => ?_); refine with_tabW snap_EntryCell.tab1 snap_EntryCell.bits1 (fun HT_ HW_ => ?_)
     generalize w35.drew = w36 at BK689 BK690 HB hHeld ⊢
     refine pure_ (i := 0) (N := some 5) (v := ?_) (a' := ?_) (bm 9 1) rfl rfl (any_of HT_.out (by kernel_rfl)) (fun _ _ _ h => h) (Or.inl ⟨by kernel_rfl, ?_⟩) ?_ ?_
     rotate_left
     ·intro w'
      go_simp
      with_reducible rfl
     rotate_left
     ·exact pA
     refine pure_ (i := 3) (N := some 8) (v := ?_) (a' := ?_) (bm 9 9) rfl rfl (any_of HT_.out (by kernel_rfl)) (fun _ _ _ h => h) (Or.inl ⟨by kernel_rfl, ?_⟩) ?_ ?_
     rotate_left
     ·intro w'
      go_simp
      with_reducible rfl
     rotate_left
     ·exact pA
     refine take_ (i := 1) (N := some 6) (v := ?_) (a' := ?_) (bm 9 11) rfl rfl (take_ofW HT_.out HW_.out (by kernel_rfl)) (fun _ _ _ h => h) (Or.inl ⟨by kernel_rfl, ?_⟩) hHeld ?_ ?_
     rotate_left
     ·rintro w' ⟨s0, s1, s2, s3⟩
      go_simp
      with_reducible rfl
     rotate_left
     ·exact pA
     refine take_ (i := 4) (N := some 9) (v := ?_) (a' := ?_) (bm 9 27) rfl rfl (take_ofW HT_.out HW_.out (by kernel_rfl)) (fun _ _ _ h => h) (Or.inl ⟨by kernel_rfl, ?_⟩) hHeld ?_ ?_
     rotate_left
     ·rintro w' ⟨s0, s1, s2, s3⟩
      go_simp
      with_reducible rfl
     rotate_left
     ·exact pA
     refine pure_ (i := 5) (N := some 10) (v := ?_) (a' := ?_) (bm 9 59) rfl rfl (any_of HT_.out (by kernel_rfl)) (fun _ _ _ h => h) (Or.inl ⟨by kernel_rfl, ?_⟩) ?_ ?_
     rotate_left
     ·intro w'
      go_simp
      with_reducible rfl
     rotate_left
     ·exact pA
     refine one_ (i := 2) (N := some 7) (bm 9 63) rfl rfl (one_of HT_.out (by kernel_rfl)) (by decide) (fun K hK => ?_)
     refine goes_ Tryd.func28 (by kernel_rfl) rfl #[.int .u64 a0_0] (by rfl) rfl rfl pM ?_
     with_reducible refine (code_Number.calls a0_0 t691 t692 t693 t694 _ A2.out).mono ?_
     rintro e w37 ⟨v695, rfl, ho0, hb⟩
     refine ⟨_, rfl, ?_⟩
     have n0_ := am (Kd.N_lower (Kd.N_mono (ok' := fun k_ => (w.heap.size ≤ k_) ∧ k_ ≠ gb689 ∧ k_ ≠ gb690) (Kd.R_N (Kd.R_bound ho0)) (fun k_ hk_ => ⟨(Nat.le_trans (below_size pB) hk_.2.1), (Kd.freshB (g := gb689) (o := .cells #[.int .u64 a0_0, .int .i64 a0_1, .string a0_2, .slice A0_3 l0_3.length c0_3] 46 (0, 0)) (pK BK689.out) k_ hk_.2.1), (Kd.freshB (g := gb690) (o := .cells #[.int .i64 0, .int .u64 0, .string (⟨#[]⟩ : ByteArray), .slice none 0 0] 26 (0, 0)) (pK BK690.out) k_ hk_.2.1)⟩)) (below_size pB))
     have n1_ := am (pkb BK689.out hb)
     have n2_ := am (pkb BK690.out hb)
     have n3_ := am (below_step pB hb)
     clear BK689 BK690 HB; have HO696 := n0_; have BK689 := n1_; have BK690 := n2_; have HB := n3_; clear n0_ n1_ n2_ n3_; (try clear hb); (try clear hb2); (try clear hk); (try clear hi); (try clear ho0)
     refine hK.out _ _ ⟨cz0 BK689.out, cz1 BK689.out, cz2 BK689.out, cz3 BK689.out⟩ (fun hHeld => ?_)
     clear hK K
     refine norm_ (a' := ?_) ?_ ?_
     rotate_left
     ·show Act.put _ (some 7) _ = _
      exact pA
     refine one_ (i := 6) (N := some 11) (bm 9 127) rfl rfl (one_of HT_.out (by kernel_rfl)) (by decide) (fun K hK => ?_)
     refine goes_ Tryd.func28 (by kernel_rfl) rfl #[.int .u64 (IntKind.u64.wrap (a0_1))] (by rfl) rfl rfl pM ?_
     with_reducible refine (code_Number.calls (IntKind.u64.wrap (a0_1)) t697 t698 t699 t700 _ A3.out).mono ?_
     rintro e w38 ⟨v701, rfl, ho0, hb⟩
     refine ⟨_, rfl, ?_⟩
     have n0_ := am (Kd.N_elder' (pN HO696.out) (by first | exact Kd.R_base ho0 | exact Kd.N_base ho0) hb)
     have n1_ := am (Kd.N_lower (Kd.N_mono (ok' := fun k_ => (w.heap.size ≤ k_) ∧ some k_ ≠ (v695 : Value).ownBlock ∧ k_ ≠ gb689 ∧ k_ ≠ gb690) (Kd.R_N (Kd.R_bound ho0)) (fun k_ hk_ => ⟨(Nat.le_trans (below_size pB) hk_.2.1), (Kd.fresh' (Kd.N_lt (pN HO696.out)) k_ hk_.2.1), (Kd.freshB (g := gb689) (o := .cells #[.int .u64 a0_0, .int .i64 a0_1, .string a0_2, .slice A0_3 l0_3.length c0_3] 46 (0, 0)) (pK BK689.out) k_ hk_.2.1), (Kd.freshB (g := gb690) (o := .cells #[.int .i64 0, .int .u64 0, .string (⟨#[]⟩ : ByteArray), .slice none 0 0] 26 (0, 0)) (pK BK690.out) k_ hk_.2.1)⟩)) (below_size pB))
     have n2_ := am (pkb BK689.out hb)
     have n3_ := am (pkb BK690.out hb)
     have n4_ := am (below_step pB hb)
     clear HO696 BK689 BK690 HB; have HO696 := n0_; have HO702 := n1_; have BK689 := n2_; have BK690 := n3_; have HB := n4_; clear n0_ n1_ n2_ n3_ n4_; (try clear hb); (try clear hb2); (try clear hk); (try clear hi); (try clear ho0)
     obtain ⟨Ao39, co39, eo39⟩ := Kd.N_slice HO696.out
     (first | subst eo39 | (injection eo39 with f1_ f2_ f3_; have f4_ := f1_.symm; have f5_ := f3_.symm; clear f1_ f2_ f3_; subst f4_; subst f5_))
     obtain ⟨Ao40, co40, eo40⟩ := Kd.N_slice HO702.out
     (first | subst eo40 | (injection eo40 with f1_ f2_ f3_; have f4_ := f1_.symm; have f5_ := f3_.symm; clear f1_ f2_ f3_; subst f4_; subst f5_))
     refine hK.out _ _ ⟨cz0 BK689.out, cz1 BK689.out, cz2 BK689.out, cz3 BK689.out⟩ (fun hHeld => ?_)
     clear hK K
     refine norm_ (a' := ?_) ?_ ?_
     rotate_left
     ·show Act.put _ (some 11) _ = _
      exact pA
     refine one_ (i := 7) (N := some 12) (bm 9 255) rfl rfl (one_of HT_.out (by kernel_rfl)) (by decide) (fun K hK => ?_)
     refine Kd.N_lit_step k26 _ 26 ?hg (N' := 12) ?hd (xs := ([(⟨t691, t692, t693, t694⟩ : S26), (⟨t697, t698, t699, t700⟩ : S26)] : List (S26))) (inner := [.int .i64 t691, .int .u64 t692, .string t693, .slice Ao39 t694.length co39, .int .i64 t697, .int .u64 t698, .string t699, .slice Ao40 t700.length co40]) (ok := (fun k_ => (w.heap.size ≤ k_) ∧ k_ ≠ gb689 ∧ k_ ≠ gb690)) (okp := (fun k_ => (w.heap.size ≤ k_) ∧ k_ ≠ gb689 ∧ k_ ≠ gb690)) ?hr ?hp (fun _ hk => hk) ((show ∀ k_, w38.heap.size ≤ k_ → (fun k_ => (w.heap.size ≤ k_) ∧ k_ ≠ gb689 ∧ k_ ≠ gb690) k_ from fun k_ hk => ⟨(Nat.le_trans (below_size pB) hk), Kd.freshB (g := gb689) (o := .cells #[.int .u64 a0_0, .int .i64 a0_1, .string a0_2, .slice A0_3 l0_3.length c0_3] 46 (0, 0)) (pK BK689.out) k_ hk, Kd.freshB (g := gb690) (o := .cells #[.int .i64 0, .int .u64 0, .string (⟨#[]⟩ : ByteArray), .slice none 0 0] 26 (0, 0)) (pK BK690.out) k_ hk⟩) _ (Nat.le_refl _)) (Below.refl _ _) (Nat.le_refl _) (by simp) ?_; (case hd => rfl); (case hg => rfl); (case hr => first | (go_simp; done) | (go_simp; rfl)); (case hp => exact (Reps.c4 (show Kd.FK k26 _ _ (⟨t691, t692, t693, t694⟩ : S26) [.int .i64 t691, .int .u64 t692, .string t693, .slice Ao39 t694.length co39] from (k26_mkF _ _ (⟨t691, t692, t693, t694⟩ : S26) (Kd.N_reads' (Kd.N_mono (ok' := (fun k_ => (w.heap.size ≤ k_) ∧ k_ ≠ gb689 ∧ k_ ≠ gb690)) (HO696.out) (fun k_ hk => ⟨hk.1.1, ⟨hk.1.2.1, hk.1.2.2⟩⟩))).2.1 (Kd.N_F (Kd.N_mono (ok' := (fun k_ => (w.heap.size ≤ k_) ∧ k_ ≠ gb689 ∧ k_ ≠ gb690)) (HO696.out) (fun k_ hk => ⟨hk.1.1, ⟨hk.1.2.1, hk.1.2.2⟩⟩))))) (Reps.c4 (show Kd.FK k26 _ _ (⟨t697, t698, t699, t700⟩ : S26) [.int .i64 t697, .int .u64 t698, .string t699, .slice Ao40 t700.length co40] from (k26_mkF _ _ (⟨t697, t698, t699, t700⟩ : S26) (Kd.N_reads' (Kd.N_mono (ok' := (fun k_ => (w.heap.size ≤ k_) ∧ k_ ≠ gb689 ∧ k_ ≠ gb690)) (HO702.out) (fun k_ hk => ⟨hk.1, ⟨hk.2.2.1, hk.2.2.2⟩⟩))).2.1 (Kd.N_F (Kd.N_mono (ok' := (fun k_ => (w.heap.size ≤ k_) ∧ k_ ≠ gb689 ∧ k_ ≠ gb690)) (HO702.out) (fun k_ hk => ⟨hk.1, ⟨hk.2.2.1, hk.2.2.2⟩⟩))))) (Reps.none _ _))))
     intro v704 w41 ho42 hb hg_ hnew_
     clear hg_ hnew_
     (first | rw [← Ny703.out] at ho42 | (simp only [Int.reduceToNat] at ho42; rw [← Ny703.out] at ho42))
     have n0_ := am (Kd.N_lower ho42 (below_size pB))
     have n1_ := am (pkb BK689.out hb)
     have n2_ := am (pkb BK690.out hb)
     have n3_ := am (below_step pB hb)
     clear BK689 BK690 HB HO696 HO702; have HO705 := n0_; have BK689 := n1_; have BK690 := n2_; have HB := n3_; clear n0_ n1_ n2_ n3_ hb ho42
     refine hK.out _ _ ⟨cz0 BK689.out, cz1 BK689.out, cz2 BK689.out, cz3 BK689.out⟩ (fun hHeld => ?_)
     clear hK K
     refine norm_ (a' := ?_) ?_ ?_
     rotate_left
     ·show Act.put _ (some 12) _ = _
      exact pA
     refine pure_ (i := 8) (N := some 4) (v := ?_) (a' := ?_) (bm 9 511) rfl rfl (any_of HT_.out (by kernel_rfl)) (fun _ _ _ h => h) (Or.inl ⟨by kernel_rfl, ?_⟩) ?_ ?_
     rotate_left
     ·intro w'
      go_simp
      with_reducible rfl
     rotate_left
     ·exact pA
     refine done_ (done_of HT_.out (by kernel_rfl)) ?_
     have hnb43 := NB689_690.out
     have hnc43 := NB690_689.out
     have q44 := cf4 BK689.out
     try go_wp2_with (first | ((with_reducible refine gate_callee (f := 43) rfl ?_); refine goesL_ (some 28) rfl rfl Tryd.func43 (by kernel_rfl) rfl #[.string a0_2] rfl pM ?_; (with_reducible refine (code_Text.calls a0_2 t706 t707 t708 t709 _ A32.out).mono ?_); rintro e w45 ⟨v710, rfl, ho0, hb⟩; refine ⟨_, rfl, ?_⟩; have HO711 := am (Kd.N_lower (Kd.N_mono (ok' := fun k_ => (w.heap.size ≤ k_) ∧ some k_ ≠ (v704 : Value).ownBlock ∧ k_ ≠ gb689 ∧ k_ ≠ gb690) (Kd.R_N (Kd.R_bound ho0)) (fun k_ hk_ => ⟨(Nat.le_trans (below_size pB) hk_.2.1), (Kd.fresh' (Kd.N_lt (pN HO705.out)) k_ hk_.2.1), (Kd.freshB (g := gb689) (o := .cells #[.int .u64 a0_0, .int .i64 a0_1, .string a0_2, .slice A0_3 l0_3.length c0_3] 46 (0, 0)) (pK BK689.out) k_ hk_.2.1), (Kd.freshB (g := gb690) (o := .cells #[.int .i64 0, .int .u64 0, .string (⟨#[]⟩ : ByteArray), .slice none 0 0] 26 (0, 0)) (pK BK690.out) k_ hk_.2.1)⟩)) (below_size pB)); replace HO705 := am (Kd.N_elder' (pN HO705.out) (by first | exact Kd.R_base ho0 | exact Kd.N_base ho0) hb); replace BK689 := am (pkb BK689.out hb); replace BK690 := am (pkb BK690.out hb); replace HB := am (below_step pB hb); (try clear hb); (try clear hb2); (try clear hk); (try clear hi); (try clear ho0); obtain ⟨Ao47, co47, eo47⟩ := Kd.N_slice HO711.out; subst eo47) | ((with_reducible refine gate_builtin (b := .append) (xs := #[.tmp 25, .tmp 29]) rfl ?_); at_builtin; refine Kd.N_append k26 (w0 := w) w.heap.size rfl (.tmp 25) (.tmp 29) 24 26 (.agg #[(.int .i64 0), (.int .u64 0), (.string ⟨#[]⟩), (.slice none 0 0)]) 56 rfl Tryd.underlying24 info26 rfl (by decide) (by omega) v704 y703 (⟨t706, t707, t708, t709⟩ : S26) [.int .i64 t706, .int .u64 t707, .string t708, .slice Ao47 t709.length co47] (fun k_ => (w.heap.size ≤ k_) ∧ k_ ≠ gb689 ∧ k_ ≠ gb690) (fun k_ => ((fun k_ => (w.heap.size ≤ k_) ∧ k_ ≠ gb689 ∧ k_ ≠ gb690)) k_ ∧ some k_ ≠ (v704 : Value).ownBlock) rfl rfl ?aP (fun _ hk => hk) ?aF ?aO ?aB ?aS ?aL ?_; (case aP => exact (k26_mkF _ _ (⟨t706, t707, t708, t709⟩ : S26) (Kd.N_reads' (Kd.N_mono (ok' := (fun k_ => ((fun k_ => (w.heap.size ≤ k_) ∧ k_ ≠ gb689 ∧ k_ ≠ gb690)) k_ ∧ some k_ ≠ (v704 : Value).ownBlock)) (HO711.out) (fun k_ hk => ⟨⟨hk.1, ⟨hk.2.2.1, hk.2.2.2⟩⟩, hk.2.1⟩))).2.1 (Kd.N_F (Kd.N_mono (ok' := (fun k_ => ((fun k_ => (w.heap.size ≤ k_) ∧ k_ ≠ gb689 ∧ k_ ≠ gb690)) k_ ∧ some k_ ≠ (v704 : Value).ownBlock)) (HO711.out) (fun k_ hk => ⟨⟨hk.1, ⟨hk.2.2.1, hk.2.2.2⟩⟩, hk.2.1⟩))))); (case aB => exact pB); (case aF => exact (fun k_ hk => ⟨(Nat.le_trans (below_size pB) hk), Kd.freshB (g := gb689) (o := .cells #[.int .u64 a0_0, .int .i64 a0_1, .string a0_2, .slice A0_3 l0_3.length c0_3] 46 (0, 0)) (pK BK689.out) k_ hk, Kd.freshB (g := gb690) (o := .cells #[.int .i64 0, .int .u64 0, .string (⟨#[]⟩ : ByteArray), .slice none 0 0] 26 (0, 0)) (pK BK690.out) k_ hk⟩)); (case aO => exact (by (with_reducible repeat (first | apply Kd.N_alloc | apply Kd.N_drewN | apply Kd.N_drew)); exact Kd.N_mono HO705.out (fun _ hk => ⟨hk.1.1, ⟨hk.1.2.1, hk.1.2.2⟩⟩))); (case aS => exact (below_size pB)); (case aL => have := LMc33.out; omega); intro v713 w46 ho hb hg hat; rw [← Ny712.out] at ho; replace BK689 := am (blk_grown (g := gb689) (o := .cells #[.int .u64 a0_0, .int .i64 a0_1, .string a0_2, .slice A0_3 l0_3.length c0_3] 46 (0, 0)) (pK BK689.out) hg (Kd.N_ne HO705.out BK689.out (by decide))); replace BK690 := am (blk_grown (g := gb690) (o := .cells #[.int .i64 0, .int .u64 0, .string (⟨#[]⟩ : ByteArray), .slice none 0 0] 26 (0, 0)) (pK BK690.out) hg (Kd.N_away HO705.out (fun _ hk => hk.1.2.2))); replace HB := am (hb); have HO714 := am (ho); clear HO705 HO711; clear ho hb hg hat; obtain ⟨Ao48, co48, eo48⟩ := Kd.N_slice HO714.out; subst eo48; have q49 := cf4 BK690.out))
     refine bodyPost_ret (results_ct rfl _ _ gb690 26 #[.int .i64 2, .int .u64 0, .string (⟨#[]⟩ : ByteArray), .slice Ao48 y712.length co48] (0, 0) _ rfl (by (iterate 3 ((with_reducible repeat (first | refine blk_drewN ?_ _ | refine blk_drew ?_ | refine blk_alloc ?_ _)); refine blk_put (cs := #[.int .i64 2, .int .u64 0, .string (⟨#[]⟩ : ByteArray), .slice none 0 0]) ?_ _ _ rfl)); (with_reducible repeat (first | refine blk_drewN ?_ _ | refine blk_drew ?_ | refine blk_alloc ?_ _)); refine blk_put (cs := #[.int .i64 0, .int .u64 0, .string (⟨#[]⟩ : ByteArray), .slice none 0 0]) ?_ 0 _ rfl; (with_reducible repeat (first | refine blk_drewN ?_ _ | refine blk_drew ?_ | refine blk_alloc ?_ _)); exact BK690.out) Tryd.underlying26 rfl (by kernel_rfl)) rfl ?_
     exact ⟨_, pE, by (with_reducible repeat (first | apply Kd.N_alloc | apply Kd.N_drewN | apply Kd.N_drew)); exact Kd.N_mono (Kd.N_far (p := ⟨gb690, 3, none⟩) (Kd.N_far (p := ⟨gb690, 2, none⟩) (Kd.N_far (p := ⟨gb690, 1, none⟩) (Kd.N_far (p := ⟨gb690, 0, none⟩) (Kd.N_mono HO714.out (fun k_ hk => (⟨hk, hk.2.2⟩ : _ ∧ k_ ≠ gb690))) (fun _ hk => hk.2) (.int .i64 2)) (fun _ hk => hk.2) (.int .u64 0)) (fun _ hk => hk.2) (.string (⟨#[]⟩ : ByteArray))) (fun _ hk => hk.2) (.slice Ao48 y712.length co48)) (fun _ hk => hk.1.1), pB⟩
    ·rw [if_neg c33] at H
     exact absurd H (by simp)
  ·rw [if_neg c18] at H
   have c18b0 : (a0_1 == 1) = false := beq_eq_false_iff_ne.mpr c18
   have c18b1 : (a0_1 != 1) = true := bne_iff_ne.mpr c18
   by_cases c50 : a0_1 = 2
   ·rw [if_pos c50] at H
    have c50b0 : (a0_1 == 2) = true := beq_iff_eq.mpr c50
    have c50b1 : (a0_1 != 2) = false := bne_eq_false_iff_eq.mpr c50
    clear c50
    replace H := Option.bind_eq_some_iff.mp H
    obtain ⟨t715, A510, H⟩ := H
    try dsimp only at H
    have A51 := am A510
    clear A510
    by_cases c52 : t715 = true
    ·subst c52
     rw [if_pos rfl] at H
     replace H := Option.bind_eq_some_iff.mp H
     obtain ⟨⟨t716, t717, t718, t719⟩, A530, H⟩ := H
     try dsimp only at H
     have A53 := am A530
     clear A530
     by_cases c54 : y703.length < 2513169434916
     ·rw [if_pos c54] at H
      have LMc54 := am c54
      clear c54
      obtain ⟨y722, hy722⟩ : ∃ y_ : List (S26), y_ = (y703 ++ [(⟨t716, t717, t718, t719⟩ : S26)]) := ⟨_, rfl⟩
      replace H : (some (2, 0, (⟨#[]⟩ : ByteArray), y722, 0)) = some (r1, r2, r3, r4, r5) := by first | (rw [hy722]; with_reducible exact H) | (have H2_ := (Option.bind_some _ _).symm.trans H; rw [hy722]; with_reducible exact H2_) | (have H2_ := (Option.bind_some _ _).symm.trans H; with_reducible exact H2_) | with_reducible exact H | (rw [hy722]; exact H) | exact H
      have Ny722 := am hy722
      clear hy722
      simp only [Option.some.injEq, Prod.mk.injEq] at H
      obtain ⟨rfl, rfl, rfl, rfl, rfl⟩ := H
      go_enter Tryd.func17, Tryd.ntmps17
      try go_wp2_with (first | ((with_reducible refine gate_dst (N := 1) rfl ?_); refine box_event ?hg (N := 1) ?hd (cs := #[.int .u64 a0_0, .int .i64 a0_1, .string a0_2, .slice A0_3 l0_3.length c0_3]) (t := 46) ?hr ?_; (case hd => rfl); (case hg => rfl); (case hr => first | (go_simp; done) | (go_simp; rfl)); intro gb689 hg w55 hbox hb; have BK689 := am (hbox); have GW689 := am ((by rw [hg]; exact (below_size pB) : w.heap.size ≤ gb689)); have GE689 := am ((by rw [hg]; exact (below_size pB) : w.heap.size ≤ gb689)); replace HB := am (below_step pB hb); clear hb hbox hg) | ((with_reducible refine gate_dst (N := 2) rfl ?_); refine box_event ?hg (N := 2) ?hd (cs := #[.int .i64 0, .int .u64 0, .string (⟨#[]⟩ : ByteArray), .slice none 0 0]) (t := 26) ?hr ?_; (case hd => rfl); (case hg => rfl); (case hr => first | (go_simp; done) | (go_simp; rfl)); intro gb690 hg w56 hbox hb; have BK690 := am (hbox); have GW690 := am ((by rw [hg]; exact (below_size pB) : w.heap.size ≤ gb690)); have GE690 := am ((by rw [hg]; exact (below_size pB) : w.heap.size ≤ gb690)); have NB689_690 := am ((by rw [hg]; exact Nat.ne_of_lt (pkl BK689.out) : gb689 ≠ gb690)); have NB690_689 := am ((by rw [hg]; exact Nat.ne_of_gt (pkl BK689.out) : gb690 ≠ gb689)); replace BK689 := am (pkb BK689.out hb); replace HB := am (below_step pB hb); clear hb hbox hg))
      replace BK689 := am (blk_drew BK689.out)
      replace BK690 := am (blk_drew BK690.out)
      replace HB := am (below_drew1 HB.out)
      refine start_ (n := 9) (S := fun w' => w'.cell? ⟨gb689, 0, none⟩ = some (.int .u64 a0_0) ∧ w'.cell? ⟨gb689, 1, none⟩ = some (.int .i64 a0_1) ∧ w'.cell? ⟨gb689, 2, none⟩ = some (.string a0_2) ∧ w'.cell? ⟨gb689, 3, none⟩ = some (.slice A0_3 l0_3.length c0_3)) (ds := []) (bm 9 0) (by kernel_rfl) rfl rfl ⟨cz0 BK689.out, cz1 BK689.out, cz2 BK689.out, cz3 BK689.out⟩ (fun hHeld => ?_); refine with_tabW snap_EntryCell.tab1 snap_EntryCell.bits1 (fun HT_ HW_ => ?_)
      generalize w56.drew = w57 at BK689 BK690 HB hHeld ⊢
      refine pure_ (i := 0) (N := some 5) (v := ?_) (a' := ?_) (bm 9 1) rfl rfl (any_of HT_.out (by kernel_rfl)) (fun _ _ _ h => h) (Or.inl ⟨by kernel_rfl, ?_⟩) ?_ ?_
      rotate_left
      ·intro w'
       go_simp
       with_reducible rfl
      rotate_left
      ·exact pA
      refine pure_ (i := 3) (N := some 8) (v := ?_) (a' := ?_) (bm 9 9) rfl rfl (any_of HT_.out (by kernel_rfl)) (fun _ _ _ h => h) (Or.inl ⟨by kernel_rfl, ?_⟩) ?_ ?_
      rotate_left
      ·intro w'
       go_simp
       with_reducible rfl
      rotate_left
      ·exact pA
      refine take_ (i := 1) (N := some 6) (v := ?_) (a' := ?_) (bm 9 11) rfl rfl (take_ofW HT_.out HW_.out (by kernel_rfl)) (fun _ _ _ h => h) (Or.inl ⟨by kernel_rfl, ?_⟩) hHeld ?_ ?_
      rotate_left
      ·rintro w' ⟨s0, s1, s2, s3⟩
       go_simp
       with_reducible rfl
      rotate_left
      ·exact pA
      refine take_ (i := 4) (N := some 9) (v := ?_) (a' := ?_) (bm 9 27) rfl rfl (take_ofW HT_.out HW_.out (by kernel_rfl)) (fun _ _ _ h => h) (Or.inl ⟨by kernel_rfl, ?_⟩) hHeld ?_ ?_
      rotate_left
      ·rintro w' ⟨s0, s1, s2, s3⟩
       go_simp
       with_reducible rfl
      rotate_left
      ·exact pA
      refine pure_ (i := 5) (N := some 10) (v := ?_) (a' := ?_) (bm 9 59) rfl rfl (any_of HT_.out (by kernel_rfl)) (fun _ _ _ h => h) (Or.inl ⟨by kernel_rfl, ?_⟩) ?_ ?_
      rotate_left
      ·intro w'
       go_simp
       with_reducible rfl
      rotate_left
      ·exact pA
      refine one_ (i := 2) (N := some 7) (bm 9 63) rfl rfl (one_of HT_.out (by kernel_rfl)) (by decide) (fun K hK => ?_)
      refine goes_ Tryd.func28 (by kernel_rfl) rfl #[.int .u64 a0_0] (by rfl) rfl rfl pM ?_
      with_reducible refine (code_Number.calls a0_0 t691 t692 t693 t694 _ A2.out).mono ?_
      rintro e w58 ⟨v695, rfl, ho0, hb⟩
      refine ⟨_, rfl, ?_⟩
      have n0_ := am (Kd.N_lower (Kd.N_mono (ok' := fun k_ => (w.heap.size ≤ k_) ∧ k_ ≠ gb689 ∧ k_ ≠ gb690) (Kd.R_N (Kd.R_bound ho0)) (fun k_ hk_ => ⟨(Nat.le_trans (below_size pB) hk_.2.1), (Kd.freshB (g := gb689) (o := .cells #[.int .u64 a0_0, .int .i64 a0_1, .string a0_2, .slice A0_3 l0_3.length c0_3] 46 (0, 0)) (pK BK689.out) k_ hk_.2.1), (Kd.freshB (g := gb690) (o := .cells #[.int .i64 0, .int .u64 0, .string (⟨#[]⟩ : ByteArray), .slice none 0 0] 26 (0, 0)) (pK BK690.out) k_ hk_.2.1)⟩)) (below_size pB))
      have n1_ := am (pkb BK689.out hb)
      have n2_ := am (pkb BK690.out hb)
      have n3_ := am (below_step pB hb)
      clear BK689 BK690 HB; have HO696 := n0_; have BK689 := n1_; have BK690 := n2_; have HB := n3_; clear n0_ n1_ n2_ n3_; (try clear hb); (try clear hb2); (try clear hk); (try clear hi); (try clear ho0)
      refine hK.out _ _ ⟨cz0 BK689.out, cz1 BK689.out, cz2 BK689.out, cz3 BK689.out⟩ (fun hHeld => ?_)
      clear hK K
      refine norm_ (a' := ?_) ?_ ?_
      rotate_left
      ·show Act.put _ (some 7) _ = _
       exact pA
      refine one_ (i := 6) (N := some 11) (bm 9 127) rfl rfl (one_of HT_.out (by kernel_rfl)) (by decide) (fun K hK => ?_)
      refine goes_ Tryd.func28 (by kernel_rfl) rfl #[.int .u64 (IntKind.u64.wrap (a0_1))] (by rfl) rfl rfl pM ?_
      with_reducible refine (code_Number.calls (IntKind.u64.wrap (a0_1)) t697 t698 t699 t700 _ A3.out).mono ?_
      rintro e w59 ⟨v701, rfl, ho0, hb⟩
      refine ⟨_, rfl, ?_⟩
      have n0_ := am (Kd.N_elder' (pN HO696.out) (by first | exact Kd.R_base ho0 | exact Kd.N_base ho0) hb)
      have n1_ := am (Kd.N_lower (Kd.N_mono (ok' := fun k_ => (w.heap.size ≤ k_) ∧ some k_ ≠ (v695 : Value).ownBlock ∧ k_ ≠ gb689 ∧ k_ ≠ gb690) (Kd.R_N (Kd.R_bound ho0)) (fun k_ hk_ => ⟨(Nat.le_trans (below_size pB) hk_.2.1), (Kd.fresh' (Kd.N_lt (pN HO696.out)) k_ hk_.2.1), (Kd.freshB (g := gb689) (o := .cells #[.int .u64 a0_0, .int .i64 a0_1, .string a0_2, .slice A0_3 l0_3.length c0_3] 46 (0, 0)) (pK BK689.out) k_ hk_.2.1), (Kd.freshB (g := gb690) (o := .cells #[.int .i64 0, .int .u64 0, .string (⟨#[]⟩ : ByteArray), .slice none 0 0] 26 (0, 0)) (pK BK690.out) k_ hk_.2.1)⟩)) (below_size pB))
      have n2_ := am (pkb BK689.out hb)
      have n3_ := am (pkb BK690.out hb)
      have n4_ := am (below_step pB hb)
      clear HO696 BK689 BK690 HB; have HO696 := n0_; have HO702 := n1_; have BK689 := n2_; have BK690 := n3_; have HB := n4_; clear n0_ n1_ n2_ n3_ n4_; (try clear hb); (try clear hb2); (try clear hk); (try clear hi); (try clear ho0)
      obtain ⟨Ao60, co60, eo60⟩ := Kd.N_slice HO696.out
      (first | subst eo60 | (injection eo60 with f1_ f2_ f3_; have f4_ := f1_.symm; have f5_ := f3_.symm; clear f1_ f2_ f3_; subst f4_; subst f5_))
      obtain ⟨Ao61, co61, eo61⟩ := Kd.N_slice HO702.out
      (first | subst eo61 | (injection eo61 with f1_ f2_ f3_; have f4_ := f1_.symm; have f5_ := f3_.symm; clear f1_ f2_ f3_; subst f4_; subst f5_))
      refine hK.out _ _ ⟨cz0 BK689.out, cz1 BK689.out, cz2 BK689.out, cz3 BK689.out⟩ (fun hHeld => ?_)
      clear hK K
      refine norm_ (a' := ?_) ?_ ?_
      rotate_left
      ·show Act.put _ (some 11) _ = _
       exact pA
      refine one_ (i := 7) (N := some 12) (bm 9 255) rfl rfl (one_of HT_.out (by kernel_rfl)) (by decide) (fun K hK => ?_)
      refine Kd.N_lit_step k26 _ 26 ?hg (N' := 12) ?hd (xs := ([(⟨t691, t692, t693, t694⟩ : S26), (⟨t697, t698, t699, t700⟩ : S26)] : List (S26))) (inner := [.int .i64 t691, .int .u64 t692, .string t693, .slice Ao60 t694.length co60, .int .i64 t697, .int .u64 t698, .string t699, .slice Ao61 t700.length co61]) (ok := (fun k_ => (w.heap.size ≤ k_) ∧ k_ ≠ gb689 ∧ k_ ≠ gb690)) (okp := (fun k_ => (w.heap.size ≤ k_) ∧ k_ ≠ gb689 ∧ k_ ≠ gb690)) ?hr ?hp (fun _ hk => hk) ((show ∀ k_, w59.heap.size ≤ k_ → (fun k_ => (w.heap.size ≤ k_) ∧ k_ ≠ gb689 ∧ k_ ≠ gb690) k_ from fun k_ hk => ⟨(Nat.le_trans (below_size pB) hk), Kd.freshB (g := gb689) (o := .cells #[.int .u64 a0_0, .int .i64 a0_1, .string a0_2, .slice A0_3 l0_3.length c0_3] 46 (0, 0)) (pK BK689.out) k_ hk, Kd.freshB (g := gb690) (o := .cells #[.int .i64 0, .int .u64 0, .string (⟨#[]⟩ : ByteArray), .slice none 0 0] 26 (0, 0)) (pK BK690.out) k_ hk⟩) _ (Nat.le_refl _)) (Below.refl _ _) (Nat.le_refl _) (by simp) ?_; (case hd => rfl); (case hg => rfl); (case hr => first | (go_simp; done) | (go_simp; rfl)); (case hp => exact (Reps.c4 (show Kd.FK k26 _ _ (⟨t691, t692, t693, t694⟩ : S26) [.int .i64 t691, .int .u64 t692, .string t693, .slice Ao60 t694.length co60] from (k26_mkF _ _ (⟨t691, t692, t693, t694⟩ : S26) (Kd.N_reads' (Kd.N_mono (ok' := (fun k_ => (w.heap.size ≤ k_) ∧ k_ ≠ gb689 ∧ k_ ≠ gb690)) (HO696.out) (fun k_ hk => ⟨hk.1.1, ⟨hk.1.2.1, hk.1.2.2⟩⟩))).2.1 (Kd.N_F (Kd.N_mono (ok' := (fun k_ => (w.heap.size ≤ k_) ∧ k_ ≠ gb689 ∧ k_ ≠ gb690)) (HO696.out) (fun k_ hk => ⟨hk.1.1, ⟨hk.1.2.1, hk.1.2.2⟩⟩))))) (Reps.c4 (show Kd.FK k26 _ _ (⟨t697, t698, t699, t700⟩ : S26) [.int .i64 t697, .int .u64 t698, .string t699, .slice Ao61 t700.length co61] from (k26_mkF _ _ (⟨t697, t698, t699, t700⟩ : S26) (Kd.N_reads' (Kd.N_mono (ok' := (fun k_ => (w.heap.size ≤ k_) ∧ k_ ≠ gb689 ∧ k_ ≠ gb690)) (HO702.out) (fun k_ hk => ⟨hk.1, ⟨hk.2.2.1, hk.2.2.2⟩⟩))).2.1 (Kd.N_F (Kd.N_mono (ok' := (fun k_ => (w.heap.size ≤ k_) ∧ k_ ≠ gb689 ∧ k_ ≠ gb690)) (HO702.out) (fun k_ hk => ⟨hk.1, ⟨hk.2.2.1, hk.2.2.2⟩⟩))))) (Reps.none _ _))))
      intro v704 w62 ho63 hb hg_ hnew_
      clear hg_ hnew_
      (first | rw [← Ny703.out] at ho63 | (simp only [Int.reduceToNat] at ho63; rw [← Ny703.out] at ho63))
      have n0_ := am (Kd.N_lower ho63 (below_size pB))
      have n1_ := am (pkb BK689.out hb)
      have n2_ := am (pkb BK690.out hb)
      have n3_ := am (below_step pB hb)
      clear BK689 BK690 HB HO696 HO702; have HO705 := n0_; have BK689 := n1_; have BK690 := n2_; have HB := n3_; clear n0_ n1_ n2_ n3_ hb ho63
      refine hK.out _ _ ⟨cz0 BK689.out, cz1 BK689.out, cz2 BK689.out, cz3 BK689.out⟩ (fun hHeld => ?_)
      clear hK K
      refine norm_ (a' := ?_) ?_ ?_
      rotate_left
      ·show Act.put _ (some 12) _ = _
       exact pA
      refine pure_ (i := 8) (N := some 4) (v := ?_) (a' := ?_) (bm 9 511) rfl rfl (any_of HT_.out (by kernel_rfl)) (fun _ _ _ h => h) (Or.inl ⟨by kernel_rfl, ?_⟩) ?_ ?_
      rotate_left
      ·intro w'
       go_simp
       with_reducible rfl
      rotate_left
      ·exact pA
      refine done_ (done_of HT_.out (by kernel_rfl)) ?_
      have hnb64 := NB689_690.out
      have hnc64 := NB690_689.out
      have q65 := cf4 BK689.out
      try go_wp2_with (first | ((with_reducible refine gate_callee (f := 26) rfl ?_); refine goesL_ (some 35) rfl rfl Tryd.func26 (by kernel_rfl) rfl #[.slice A0_3 l0_3.length c0_3] rfl pM ?_; (with_reducible refine (snap_can.calls k _ _ l0_3 true _ ?side1 ?side2 A51.out).mono ?_); (case side1 => exact pC (Kd.C_below HR0_3.out HB.out)); (case side2 => exact HC0_3.out); rintro e w' ⟨rfl, ⟨nd, rfl⟩⟩; refine ⟨_, rfl, ?_⟩; (try (rw [drewN_self w62]; generalize hq_ : World.drewN w62 _ = w62; have n0_ : Aside0 (Kd.N k26 26 w62 w.heap.size (fun k_ => (w.heap.size ≤ k_) ∧ k_ ≠ gb689 ∧ k_ ≠ gb690) v704 y703) := ⟨by rw [← hq_]; exact (pN HO705.out)⟩; have n1_ : Aside0 (w62.heap[gb689]? = some (.cells #[.int .u64 a0_0, .int .i64 a0_1, .string a0_2, .slice A0_3 l0_3.length c0_3] 46 (0, 0))) := ⟨by rw [← hq_]; exact (pK BK689.out)⟩; have n2_ : Aside0 (w62.heap[gb690]? = some (.cells #[.int .i64 0, .int .u64 0, .string (⟨#[]⟩ : ByteArray), .slice none 0 0] 26 (0, 0))) := ⟨by rw [← hq_]; exact (pK BK690.out)⟩; have n3_ : Aside0 (Below w.heap.size w w62) := ⟨by rw [← hq_]; exact pB⟩; clear HO705 BK689 BK690 HB hq_; have HO705 := n0_; have BK689 := n1_; have BK690 := n2_; have HB := n3_; clear n0_ n1_ n2_ n3_)); have q65b := cf4 BK689.out) | ((with_reducible refine gate_callee (f := 29) rfl ?_); refine goesL_ (some 41) rfl rfl Tryd.func29 (by kernel_rfl) rfl #[.slice A0_3 l0_3.length c0_3] rfl pM ?_; (with_reducible refine (snap_members.calls k _ _ l0_3 t716 t717 t718 t719 _ ?side1 ?side2 A53.out).mono ?_); (case side1 => exact pC (Kd.C_below HR0_3.out HB.out)); (case side2 => exact HC0_3.out); rintro e w66 ⟨v720, rfl, ho0, hb⟩; refine ⟨_, rfl, ?_⟩; have HO721 := am (Kd.N_lower (Kd.N_mono (ok' := fun k_ => (w.heap.size ≤ k_) ∧ some k_ ≠ (v704 : Value).ownBlock ∧ k_ ≠ gb689 ∧ k_ ≠ gb690) (Kd.R_N (Kd.R_bound ho0)) (fun k_ hk_ => ⟨(Nat.le_trans (below_size pB) hk_.2.1), (Kd.fresh' (Kd.N_lt (pN HO705.out)) k_ hk_.2.1), (Kd.freshB (g := gb689) (o := .cells #[.int .u64 a0_0, .int .i64 a0_1, .string a0_2, .slice A0_3 l0_3.length c0_3] 46 (0, 0)) (pK BK689.out) k_ hk_.2.1), (Kd.freshB (g := gb690) (o := .cells #[.int .i64 0, .int .u64 0, .string (⟨#[]⟩ : ByteArray), .slice none 0 0] 26 (0, 0)) (pK BK690.out) k_ hk_.2.1)⟩)) (below_size pB)); replace HO705 := am (Kd.N_elder' (pN HO705.out) (by first | exact Kd.R_base ho0 | exact Kd.N_base ho0) hb); replace BK689 := am (pkb BK689.out hb); replace BK690 := am (pkb BK690.out hb); replace HB := am (below_step pB hb); (try clear hb); (try clear hb2); (try clear hk); (try clear hi); (try clear ho0); obtain ⟨Ao68, co68, eo68⟩ := Kd.N_slice HO721.out; subst eo68) | ((with_reducible refine gate_builtin (b := .append) (xs := #[.tmp 38, .tmp 42]) rfl ?_); at_builtin; refine Kd.N_append k26 (w0 := w) w.heap.size rfl (.tmp 38) (.tmp 42) 24 26 (.agg #[(.int .i64 0), (.int .u64 0), (.string ⟨#[]⟩), (.slice none 0 0)]) 56 rfl Tryd.underlying24 info26 rfl (by decide) (by omega) v704 y703 (⟨t716, t717, t718, t719⟩ : S26) [.int .i64 t716, .int .u64 t717, .string t718, .slice Ao68 t719.length co68] (fun k_ => (w.heap.size ≤ k_) ∧ k_ ≠ gb689 ∧ k_ ≠ gb690) (fun k_ => ((fun k_ => (w.heap.size ≤ k_) ∧ k_ ≠ gb689 ∧ k_ ≠ gb690)) k_ ∧ some k_ ≠ (v704 : Value).ownBlock) rfl rfl ?aP (fun _ hk => hk) ?aF ?aO ?aB ?aS ?aL ?_; (case aP => exact (k26_mkF _ _ (⟨t716, t717, t718, t719⟩ : S26) (Kd.N_reads' (Kd.N_mono (ok' := (fun k_ => ((fun k_ => (w.heap.size ≤ k_) ∧ k_ ≠ gb689 ∧ k_ ≠ gb690)) k_ ∧ some k_ ≠ (v704 : Value).ownBlock)) (HO721.out) (fun k_ hk => ⟨⟨hk.1, ⟨hk.2.2.1, hk.2.2.2⟩⟩, hk.2.1⟩))).2.1 (Kd.N_F (Kd.N_mono (ok' := (fun k_ => ((fun k_ => (w.heap.size ≤ k_) ∧ k_ ≠ gb689 ∧ k_ ≠ gb690)) k_ ∧ some k_ ≠ (v704 : Value).ownBlock)) (HO721.out) (fun k_ hk => ⟨⟨hk.1, ⟨hk.2.2.1, hk.2.2.2⟩⟩, hk.2.1⟩))))); (case aB => exact pB); (case aF => exact (fun k_ hk => ⟨(Nat.le_trans (below_size pB) hk), Kd.freshB (g := gb689) (o := .cells #[.int .u64 a0_0, .int .i64 a0_1, .string a0_2, .slice A0_3 l0_3.length c0_3] 46 (0, 0)) (pK BK689.out) k_ hk, Kd.freshB (g := gb690) (o := .cells #[.int .i64 0, .int .u64 0, .string (⟨#[]⟩ : ByteArray), .slice none 0 0] 26 (0, 0)) (pK BK690.out) k_ hk⟩)); (case aO => exact (by (with_reducible repeat (first | apply Kd.N_alloc | apply Kd.N_drewN | apply Kd.N_drew)); exact Kd.N_mono HO705.out (fun _ hk => ⟨hk.1.1, ⟨hk.1.2.1, hk.1.2.2⟩⟩))); (case aS => exact (below_size pB)); (case aL => have := LMc54.out; omega); intro v723 w67 ho hb hg hat; rw [← Ny722.out] at ho; replace BK689 := am (blk_grown (g := gb689) (o := .cells #[.int .u64 a0_0, .int .i64 a0_1, .string a0_2, .slice A0_3 l0_3.length c0_3] 46 (0, 0)) (pK BK689.out) hg (Kd.N_ne HO705.out BK689.out (by decide))); replace BK690 := am (blk_grown (g := gb690) (o := .cells #[.int .i64 0, .int .u64 0, .string (⟨#[]⟩ : ByteArray), .slice none 0 0] 26 (0, 0)) (pK BK690.out) hg (Kd.N_away HO705.out (fun _ hk => hk.1.2.2))); replace HB := am (hb); have HO724 := am (ho); clear HO705 HO721; clear ho hb hg hat; obtain ⟨Ao69, co69, eo69⟩ := Kd.N_slice HO724.out; subst eo69; have q70 := cf4 BK690.out))
      refine bodyPost_ret (results_ct rfl _ _ gb690 26 #[.int .i64 2, .int .u64 0, .string (⟨#[]⟩ : ByteArray), .slice Ao69 y722.length co69] (0, 0) _ rfl (by (iterate 3 ((with_reducible repeat (first | refine blk_drewN ?_ _ | refine blk_drew ?_ | refine blk_alloc ?_ _)); refine blk_put (cs := #[.int .i64 2, .int .u64 0, .string (⟨#[]⟩ : ByteArray), .slice none 0 0]) ?_ _ _ rfl)); (with_reducible repeat (first | refine blk_drewN ?_ _ | refine blk_drew ?_ | refine blk_alloc ?_ _)); refine blk_put (cs := #[.int .i64 0, .int .u64 0, .string (⟨#[]⟩ : ByteArray), .slice none 0 0]) ?_ 0 _ rfl; (with_reducible repeat (first | refine blk_drewN ?_ _ | refine blk_drew ?_ | refine blk_alloc ?_ _)); exact BK690.out) Tryd.underlying26 rfl (by kernel_rfl)) rfl ?_
      exact ⟨_, pE, by (with_reducible repeat (first | apply Kd.N_alloc | apply Kd.N_drewN | apply Kd.N_drew)); exact Kd.N_mono (Kd.N_far (p := ⟨gb690, 3, none⟩) (Kd.N_far (p := ⟨gb690, 2, none⟩) (Kd.N_far (p := ⟨gb690, 1, none⟩) (Kd.N_far (p := ⟨gb690, 0, none⟩) (Kd.N_mono HO724.out (fun k_ hk => (⟨hk, hk.2.2⟩ : _ ∧ k_ ≠ gb690))) (fun _ hk => hk.2) (.int .i64 2)) (fun _ hk => hk.2) (.int .u64 0)) (fun _ hk => hk.2) (.string (⟨#[]⟩ : ByteArray))) (fun _ hk => hk.2) (.slice Ao69 y722.length co69)) (fun _ hk => hk.1.1), pB⟩
     ·rw [if_neg c54] at H
      exact absurd H (by simp)
    ·replace c52 := Bool.eq_false_iff.mpr c52
     subst c52
     rw [if_neg (show ¬ (false = true) by decide)] at H
     simp only [Option.some.injEq, Prod.mk.injEq] at H
     obtain ⟨rfl, rfl, rfl, rfl, rfl⟩ := H
     go_enter Tryd.func17, Tryd.ntmps17
     try go_wp2_with (first | ((with_reducible refine gate_dst (N := 1) rfl ?_); refine box_event ?hg (N := 1) ?hd (cs := #[.int .u64 a0_0, .int .i64 a0_1, .string a0_2, .slice A0_3 l0_3.length c0_3]) (t := 46) ?hr ?_; (case hd => rfl); (case hg => rfl); (case hr => first | (go_simp; done) | (go_simp; rfl)); intro gb689 hg w71 hbox hb; have BK689 := am (hbox); have GW689 := am ((by rw [hg]; exact (below_size pB) : w.heap.size ≤ gb689)); have GE689 := am ((by rw [hg]; exact (below_size pB) : w.heap.size ≤ gb689)); replace HB := am (below_step pB hb); clear hb hbox hg) | ((with_reducible refine gate_dst (N := 2) rfl ?_); refine box_event ?hg (N := 2) ?hd (cs := #[.int .i64 0, .int .u64 0, .string (⟨#[]⟩ : ByteArray), .slice none 0 0]) (t := 26) ?hr ?_; (case hd => rfl); (case hg => rfl); (case hr => first | (go_simp; done) | (go_simp; rfl)); intro gb690 hg w72 hbox hb; have BK690 := am (hbox); have GW690 := am ((by rw [hg]; exact (below_size pB) : w.heap.size ≤ gb690)); have GE690 := am ((by rw [hg]; exact (below_size pB) : w.heap.size ≤ gb690)); have NB689_690 := am ((by rw [hg]; exact Nat.ne_of_lt (pkl BK689.out) : gb689 ≠ gb690)); have NB690_689 := am ((by rw [hg]; exact Nat.ne_of_gt (pkl BK689.out) : gb690 ≠ gb689)); replace BK689 := am (pkb BK689.out hb); replace HB := am (below_step pB hb); clear hb hbox hg))
     replace BK689 := am (blk_drew BK689.out)
     replace BK690 := am (blk_drew BK690.out)
     replace HB := am (below_drew1 HB.out)
     refine start_ (n := 9) (S := fun w' => w'.cell? ⟨gb689, 0, none⟩ = some (.int .u64 a0_0) ∧ w'.cell? ⟨gb689, 1, none⟩ = some (.int .i64 a0_1) ∧ w'.cell? ⟨gb689, 2, none⟩ = some (.string a0_2) ∧ w'.cell? ⟨gb689, 3, none⟩ = some (.slice A0_3 l0_3.length c0_3)) (ds := []) (bm 9 0) (by kernel_rfl) rfl rfl ⟨cz0 BK689.out, cz1 BK689.out, cz2 BK689.out, cz3 BK689.out⟩ (fun hHeld => ?_); refine with_tabW snap_EntryCell.tab1 snap_EntryCell.bits1 (fun HT_ HW_ => ?_)
     generalize w72.drew = w73 at BK689 BK690 HB hHeld ⊢
     refine pure_ (i := 0) (N := some 5) (v := ?_) (a' := ?_) (bm 9 1) rfl rfl (any_of HT_.out (by kernel_rfl)) (fun _ _ _ h => h) (Or.inl ⟨by kernel_rfl, ?_⟩) ?_ ?_
     rotate_left
     ·intro w'
      go_simp
      with_reducible rfl
     rotate_left
     ·exact pA
     refine pure_ (i := 3) (N := some 8) (v := ?_) (a' := ?_) (bm 9 9) rfl rfl (any_of HT_.out (by kernel_rfl)) (fun _ _ _ h => h) (Or.inl ⟨by kernel_rfl, ?_⟩) ?_ ?_
     rotate_left
     ·intro w'
      go_simp
      with_reducible rfl
     rotate_left
     ·exact pA
     refine take_ (i := 1) (N := some 6) (v := ?_) (a' := ?_) (bm 9 11) rfl rfl (take_ofW HT_.out HW_.out (by kernel_rfl)) (fun _ _ _ h => h) (Or.inl ⟨by kernel_rfl, ?_⟩) hHeld ?_ ?_
     rotate_left
     ·rintro w' ⟨s0, s1, s2, s3⟩
      go_simp
      with_reducible rfl
     rotate_left
     ·exact pA
     refine take_ (i := 4) (N := some 9) (v := ?_) (a' := ?_) (bm 9 27) rfl rfl (take_ofW HT_.out HW_.out (by kernel_rfl)) (fun _ _ _ h => h) (Or.inl ⟨by kernel_rfl, ?_⟩) hHeld ?_ ?_
     rotate_left
     ·rintro w' ⟨s0, s1, s2, s3⟩
      go_simp
      with_reducible rfl
     rotate_left
     ·exact pA
     refine pure_ (i := 5) (N := some 10) (v := ?_) (a' := ?_) (bm 9 59) rfl rfl (any_of HT_.out (by kernel_rfl)) (fun _ _ _ h => h) (Or.inl ⟨by kernel_rfl, ?_⟩) ?_ ?_
     rotate_left
     ·intro w'
      go_simp
      with_reducible rfl
     rotate_left
     ·exact pA
     refine one_ (i := 2) (N := some 7) (bm 9 63) rfl rfl (one_of HT_.out (by kernel_rfl)) (by decide) (fun K hK => ?_)
     refine goes_ Tryd.func28 (by kernel_rfl) rfl #[.int .u64 a0_0] (by rfl) rfl rfl pM ?_
     with_reducible refine (code_Number.calls a0_0 t691 t692 t693 t694 _ A2.out).mono ?_
     rintro e w74 ⟨v695, rfl, ho0, hb⟩
     refine ⟨_, rfl, ?_⟩
     have n0_ := am (Kd.N_lower (Kd.N_mono (ok' := fun k_ => (w.heap.size ≤ k_) ∧ k_ ≠ gb689 ∧ k_ ≠ gb690) (Kd.R_N (Kd.R_bound ho0)) (fun k_ hk_ => ⟨(Nat.le_trans (below_size pB) hk_.2.1), (Kd.freshB (g := gb689) (o := .cells #[.int .u64 a0_0, .int .i64 a0_1, .string a0_2, .slice A0_3 l0_3.length c0_3] 46 (0, 0)) (pK BK689.out) k_ hk_.2.1), (Kd.freshB (g := gb690) (o := .cells #[.int .i64 0, .int .u64 0, .string (⟨#[]⟩ : ByteArray), .slice none 0 0] 26 (0, 0)) (pK BK690.out) k_ hk_.2.1)⟩)) (below_size pB))
     have n1_ := am (pkb BK689.out hb)
     have n2_ := am (pkb BK690.out hb)
     have n3_ := am (below_step pB hb)
     clear BK689 BK690 HB; have HO696 := n0_; have BK689 := n1_; have BK690 := n2_; have HB := n3_; clear n0_ n1_ n2_ n3_; (try clear hb); (try clear hb2); (try clear hk); (try clear hi); (try clear ho0)
     refine hK.out _ _ ⟨cz0 BK689.out, cz1 BK689.out, cz2 BK689.out, cz3 BK689.out⟩ (fun hHeld => ?_)
     clear hK K
     refine norm_ (a' := ?_) ?_ ?_
     rotate_left
     ·show Act.put _ (some 7) _ = _
      exact pA
     refine one_ (i := 6) (N := some 11) (bm 9 127) rfl rfl (one_of HT_.out (by kernel_rfl)) (by decide) (fun K hK => ?_)
     refine goes_ Tryd.func28 (by kernel_rfl) rfl #[.int .u64 (IntKind.u64.wrap (a0_1))] (by rfl) rfl rfl pM ?_
     with_reducible refine (code_Number.calls (IntKind.u64.wrap (a0_1)) t697 t698 t699 t700 _ A3.out).mono ?_
     rintro e w75 ⟨v701, rfl, ho0, hb⟩
     refine ⟨_, rfl, ?_⟩
     have n0_ := am (Kd.N_elder' (pN HO696.out) (by first | exact Kd.R_base ho0 | exact Kd.N_base ho0) hb)
     have n1_ := am (Kd.N_lower (Kd.N_mono (ok' := fun k_ => (w.heap.size ≤ k_) ∧ some k_ ≠ (v695 : Value).ownBlock ∧ k_ ≠ gb689 ∧ k_ ≠ gb690) (Kd.R_N (Kd.R_bound ho0)) (fun k_ hk_ => ⟨(Nat.le_trans (below_size pB) hk_.2.1), (Kd.fresh' (Kd.N_lt (pN HO696.out)) k_ hk_.2.1), (Kd.freshB (g := gb689) (o := .cells #[.int .u64 a0_0, .int .i64 a0_1, .string a0_2, .slice A0_3 l0_3.length c0_3] 46 (0, 0)) (pK BK689.out) k_ hk_.2.1), (Kd.freshB (g := gb690) (o := .cells #[.int .i64 0, .int .u64 0, .string (⟨#[]⟩ : ByteArray), .slice none 0 0] 26 (0, 0)) (pK BK690.out) k_ hk_.2.1)⟩)) (below_size pB))
     have n2_ := am (pkb BK689.out hb)
     have n3_ := am (pkb BK690.out hb)
     have n4_ := am (below_step pB hb)
     clear HO696 BK689 BK690 HB; have HO696 := n0_; have HO702 := n1_; have BK689 := n2_; have BK690 := n3_; have HB := n4_; clear n0_ n1_ n2_ n3_ n4_; (try clear hb); (try clear hb2); (try clear hk); (try clear hi); (try clear ho0)
     obtain ⟨Ao76, co76, eo76⟩ := Kd.N_slice HO696.out
     (first | subst eo76 | (injection eo76 with f1_ f2_ f3_; have f4_ := f1_.symm; have f5_ := f3_.symm; clear f1_ f2_ f3_; subst f4_; subst f5_))
     obtain ⟨Ao77, co77, eo77⟩ := Kd.N_slice HO702.out
     (first | subst eo77 | (injection eo77 with f1_ f2_ f3_; have f4_ := f1_.symm; have f5_ := f3_.symm; clear f1_ f2_ f3_; subst f4_; subst f5_))
     refine hK.out _ _ ⟨cz0 BK689.out, cz1 BK689.out, cz2 BK689.out, cz3 BK689.out⟩ (fun hHeld => ?_)
     clear hK K
     refine norm_ (a' := ?_) ?_ ?_
     rotate_left
     ·show Act.put _ (some 11) _ = _
      exact pA
     refine one_ (i := 7) (N := some 12) (bm 9 255) rfl rfl (one_of HT_.out (by kernel_rfl)) (by decide) (fun K hK => ?_)
     refine Kd.N_lit_step k26 _ 26 ?hg (N' := 12) ?hd (xs := ([(⟨t691, t692, t693, t694⟩ : S26), (⟨t697, t698, t699, t700⟩ : S26)] : List (S26))) (inner := [.int .i64 t691, .int .u64 t692, .string t693, .slice Ao76 t694.length co76, .int .i64 t697, .int .u64 t698, .string t699, .slice Ao77 t700.length co77]) (ok := (fun k_ => (w.heap.size ≤ k_) ∧ k_ ≠ gb689 ∧ k_ ≠ gb690)) (okp := (fun k_ => (w.heap.size ≤ k_) ∧ k_ ≠ gb689 ∧ k_ ≠ gb690)) ?hr ?hp (fun _ hk => hk) ((show ∀ k_, w75.heap.size ≤ k_ → (fun k_ => (w.heap.size ≤ k_) ∧ k_ ≠ gb689 ∧ k_ ≠ gb690) k_ from fun k_ hk => ⟨(Nat.le_trans (below_size pB) hk), Kd.freshB (g := gb689) (o := .cells #[.int .u64 a0_0, .int .i64 a0_1, .string a0_2, .slice A0_3 l0_3.length c0_3] 46 (0, 0)) (pK BK689.out) k_ hk, Kd.freshB (g := gb690) (o := .cells #[.int .i64 0, .int .u64 0, .string (⟨#[]⟩ : ByteArray), .slice none 0 0] 26 (0, 0)) (pK BK690.out) k_ hk⟩) _ (Nat.le_refl _)) (Below.refl _ _) (Nat.le_refl _) (by simp) ?_; (case hd => rfl); (case hg => rfl); (case hr => first | (go_simp; done) | (go_simp; rfl)); (case hp => exact (Reps.c4 (show Kd.FK k26 _ _ (⟨t691, t692, t693, t694⟩ : S26) [.int .i64 t691, .int .u64 t692, .string t693, .slice Ao76 t694.length co76] from (k26_mkF _ _ (⟨t691, t692, t693, t694⟩ : S26) (Kd.N_reads' (Kd.N_mono (ok' := (fun k_ => (w.heap.size ≤ k_) ∧ k_ ≠ gb689 ∧ k_ ≠ gb690)) (HO696.out) (fun k_ hk => ⟨hk.1.1, ⟨hk.1.2.1, hk.1.2.2⟩⟩))).2.1 (Kd.N_F (Kd.N_mono (ok' := (fun k_ => (w.heap.size ≤ k_) ∧ k_ ≠ gb689 ∧ k_ ≠ gb690)) (HO696.out) (fun k_ hk => ⟨hk.1.1, ⟨hk.1.2.1, hk.1.2.2⟩⟩))))) (Reps.c4 (show Kd.FK k26 _ _ (⟨t697, t698, t699, t700⟩ : S26) [.int .i64 t697, .int .u64 t698, .string t699, .slice Ao77 t700.length co77] from (k26_mkF _ _ (⟨t697, t698, t699, t700⟩ : S26) (Kd.N_reads' (Kd.N_mono (ok' := (fun k_ => (w.heap.size ≤ k_) ∧ k_ ≠ gb689 ∧ k_ ≠ gb690)) (HO702.out) (fun k_ hk => ⟨hk.1, ⟨hk.2.2.1, hk.2.2.2⟩⟩))).2.1 (Kd.N_F (Kd.N_mono (ok' := (fun k_ => (w.heap.size ≤ k_) ∧ k_ ≠ gb689 ∧ k_ ≠ gb690)) (HO702.out) (fun k_ hk => ⟨hk.1, ⟨hk.2.2.1, hk.2.2.2⟩⟩))))) (Reps.none _ _))))
     intro v704 w78 ho79 hb hg_ hnew_
     clear hg_ hnew_
     (first | rw [← Ny703.out] at ho79 | (simp only [Int.reduceToNat] at ho79; rw [← Ny703.out] at ho79))
     have n0_ := am (Kd.N_lower ho79 (below_size pB))
     have n1_ := am (pkb BK689.out hb)
     have n2_ := am (pkb BK690.out hb)
     have n3_ := am (below_step pB hb)
     clear BK689 BK690 HB HO696 HO702; have HO705 := n0_; have BK689 := n1_; have BK690 := n2_; have HB := n3_; clear n0_ n1_ n2_ n3_ hb ho79
     refine hK.out _ _ ⟨cz0 BK689.out, cz1 BK689.out, cz2 BK689.out, cz3 BK689.out⟩ (fun hHeld => ?_)
     clear hK K
     refine norm_ (a' := ?_) ?_ ?_
     rotate_left
     ·show Act.put _ (some 12) _ = _
      exact pA
     refine pure_ (i := 8) (N := some 4) (v := ?_) (a' := ?_) (bm 9 511) rfl rfl (any_of HT_.out (by kernel_rfl)) (fun _ _ _ h => h) (Or.inl ⟨by kernel_rfl, ?_⟩) ?_ ?_
     rotate_left
     ·intro w'
      go_simp
      with_reducible rfl
     rotate_left
     ·exact pA
     refine done_ (done_of HT_.out (by kernel_rfl)) ?_
     have hnb80 := NB689_690.out
     have hnc80 := NB690_689.out
     have q81 := cf4 BK689.out
     try go_wp2_with (first | ((with_reducible refine gate_callee (f := 26) rfl ?_); refine goesL_ (some 35) rfl rfl Tryd.func26 (by kernel_rfl) rfl #[.slice A0_3 l0_3.length c0_3] rfl pM ?_; (with_reducible refine (snap_can.calls k _ _ l0_3 false _ ?side1 ?side2 A51.out).mono ?_); (case side1 => exact pC (Kd.C_below HR0_3.out HB.out)); (case side2 => exact HC0_3.out); rintro e w' ⟨rfl, ⟨nd, rfl⟩⟩; refine ⟨_, rfl, ?_⟩; (try (rw [drewN_self w78]; generalize hq_ : World.drewN w78 _ = w78; have n0_ : Aside0 (Kd.N k26 26 w78 w.heap.size (fun k_ => (w.heap.size ≤ k_) ∧ k_ ≠ gb689 ∧ k_ ≠ gb690) v704 y703) := ⟨by rw [← hq_]; exact (pN HO705.out)⟩; have n1_ : Aside0 (w78.heap[gb689]? = some (.cells #[.int .u64 a0_0, .int .i64 a0_1, .string a0_2, .slice A0_3 l0_3.length c0_3] 46 (0, 0))) := ⟨by rw [← hq_]; exact (pK BK689.out)⟩; have n2_ : Aside0 (w78.heap[gb690]? = some (.cells #[.int .i64 0, .int .u64 0, .string (⟨#[]⟩ : ByteArray), .slice none 0 0] 26 (0, 0))) := ⟨by rw [← hq_]; exact (pK BK690.out)⟩; have n3_ : Aside0 (Below w.heap.size w w78) := ⟨by rw [← hq_]; exact pB⟩; clear HO705 BK689 BK690 HB hq_; have HO705 := n0_; have BK689 := n1_; have BK690 := n2_; have HB := n3_; clear n0_ n1_ n2_ n3_)); have q82 := cf4 BK690.out))
     refine bodyPost_ret (results_ct rfl _ _ gb690 26 #[.int .i64 0, .int .u64 0, .string (⟨#[]⟩ : ByteArray), .slice none 0 0] (0, 0) _ rfl (by (iterate 4 ((with_reducible repeat (first | refine blk_drewN ?_ _ | refine blk_drew ?_ | refine blk_alloc ?_ _)); refine blk_put (cs := #[.int .i64 0, .int .u64 0, .string (⟨#[]⟩ : ByteArray), .slice none 0 0]) ?_ _ _ rfl)); (with_reducible repeat (first | refine blk_drewN ?_ _ | refine blk_drew ?_ | refine blk_alloc ?_ _)); exact BK690.out) Tryd.underlying26 rfl (by kernel_rfl)) rfl ?_
     exact ⟨_, pE, pZ, pB⟩
   ·rw [if_neg c50] at H
    have c50b0 : (a0_1 == 2) = false := beq_eq_false_iff_ne.mpr c50
    have c50b1 : (a0_1 != 2) = true := bne_iff_ne.mpr c50
    simp only [Option.some.injEq, Prod.mk.injEq] at H
    obtain ⟨rfl, rfl, rfl, rfl, rfl⟩ := H
    go_enter Tryd.func17, Tryd.ntmps17
    try go_wp2_with (first | ((with_reducible refine gate_dst (N := 1) rfl ?_); refine box_event ?hg (N := 1) ?hd (cs := #[.int .u64 a0_0, .int .i64 a0_1, .string a0_2, .slice A0_3 l0_3.length c0_3]) (t := 46) ?hr ?_; (case hd => rfl); (case hg => rfl); (case hr => first | (go_simp; done) | (go_simp; rfl)); intro gb689 hg w83 hbox hb; have BK689 := am (hbox); have GW689 := am ((by rw [hg]; exact (below_size pB) : w.heap.size ≤ gb689)); have GE689 := am ((by rw [hg]; exact (below_size pB) : w.heap.size ≤ gb689)); replace HB := am (below_step pB hb); clear hb hbox hg) | ((with_reducible refine gate_dst (N := 2) rfl ?_); refine box_event ?hg (N := 2) ?hd (cs := #[.int .i64 0, .int .u64 0, .string (⟨#[]⟩ : ByteArray), .slice none 0 0]) (t := 26) ?hr ?_; (case hd => rfl); (case hg => rfl); (case hr => first | (go_simp; done) | (go_simp; rfl)); intro gb690 hg w84 hbox hb; have BK690 := am (hbox); have GW690 := am ((by rw [hg]; exact (below_size pB) : w.heap.size ≤ gb690)); have GE690 := am ((by rw [hg]; exact (below_size pB) : w.heap.size ≤ gb690)); have NB689_690 := am ((by rw [hg]; exact Nat.ne_of_lt (pkl BK689.out) : gb689 ≠ gb690)); have NB690_689 := am ((by rw [hg]; exact Nat.ne_of_gt (pkl BK689.out) : gb690 ≠ gb689)); replace BK689 := am (pkb BK689.out hb); replace HB := am (below_step pB hb); clear hb hbox hg))
    replace BK689 := am (blk_drew BK689.out)
    replace BK690 := am (blk_drew BK690.out)
    replace HB := am (below_drew1 HB.out)
    refine start_ (n := 9) (S := fun w' => w'.cell? ⟨gb689, 0, none⟩ = some (.int .u64 a0_0) ∧ w'.cell? ⟨gb689, 1, none⟩ = some (.int .i64 a0_1) ∧ w'.cell? ⟨gb689, 2, none⟩ = some (.string a0_2) ∧ w'.cell? ⟨gb689, 3, none⟩ = some (.slice A0_3 l0_3.length c0_3)) (ds := []) (bm 9 0) (by kernel_rfl) rfl rfl ⟨cz0 BK689.out, cz1 BK689.out, cz2 BK689.out, cz3 BK689.out⟩ (fun hHeld => ?_); refine with_tabW snap_EntryCell.tab1 snap_EntryCell.bits1 (fun HT_ HW_ => ?_)
    generalize w84.drew = w85 at BK689 BK690 HB hHeld ⊢
    refine pure_ (i := 0) (N := some 5) (v := ?_) (a' := ?_) (bm 9 1) rfl rfl (any_of HT_.out (by kernel_rfl)) (fun _ _ _ h => h) (Or.inl ⟨by kernel_rfl, ?_⟩) ?_ ?_
    rotate_left
    ·intro w'
     go_simp
     with_reducible rfl
    rotate_left
    ·exact pA
    refine pure_ (i := 3) (N := some 8) (v := ?_) (a' := ?_) (bm 9 9) rfl rfl (any_of HT_.out (by kernel_rfl)) (fun _ _ _ h => h) (Or.inl ⟨by kernel_rfl, ?_⟩) ?_ ?_
    rotate_left
    ·intro w'
     go_simp
     with_reducible rfl
    rotate_left
    ·exact pA
    refine take_ (i := 1) (N := some 6) (v := ?_) (a' := ?_) (bm 9 11) rfl rfl (take_ofW HT_.out HW_.out (by kernel_rfl)) (fun _ _ _ h => h) (Or.inl ⟨by kernel_rfl, ?_⟩) hHeld ?_ ?_
    rotate_left
    ·rintro w' ⟨s0, s1, s2, s3⟩
     go_simp
     with_reducible rfl
    rotate_left
    ·exact pA
    refine take_ (i := 4) (N := some 9) (v := ?_) (a' := ?_) (bm 9 27) rfl rfl (take_ofW HT_.out HW_.out (by kernel_rfl)) (fun _ _ _ h => h) (Or.inl ⟨by kernel_rfl, ?_⟩) hHeld ?_ ?_
    rotate_left
    ·rintro w' ⟨s0, s1, s2, s3⟩
     go_simp
     with_reducible rfl
    rotate_left
    ·exact pA
    refine pure_ (i := 5) (N := some 10) (v := ?_) (a' := ?_) (bm 9 59) rfl rfl (any_of HT_.out (by kernel_rfl)) (fun _ _ _ h => h) (Or.inl ⟨by kernel_rfl, ?_⟩) ?_ ?_
    rotate_left
    ·intro w'
     go_simp
     with_reducible rfl
    rotate_left
    ·exact pA
    refine one_ (i := 2) (N := some 7) (bm 9 63) rfl rfl (one_of HT_.out (by kernel_rfl)) (by decide) (fun K hK => ?_)
    refine goes_ Tryd.func28 (by kernel_rfl) rfl #[.int .u64 a0_0] (by rfl) rfl rfl pM ?_
    with_reducible refine (code_Number.calls a0_0 t691 t692 t693 t694 _ A2.out).mono ?_
    rintro e w86 ⟨v695, rfl, ho0, hb⟩
    refine ⟨_, rfl, ?_⟩
    have n0_ := am (Kd.N_lower (Kd.N_mono (ok' := fun k_ => (w.heap.size ≤ k_) ∧ k_ ≠ gb689 ∧ k_ ≠ gb690) (Kd.R_N (Kd.R_bound ho0)) (fun k_ hk_ => ⟨(Nat.le_trans (below_size pB) hk_.2.1), (Kd.freshB (g := gb689) (o := .cells #[.int .u64 a0_0, .int .i64 a0_1, .string a0_2, .slice A0_3 l0_3.length c0_3] 46 (0, 0)) (pK BK689.out) k_ hk_.2.1), (Kd.freshB (g := gb690) (o := .cells #[.int .i64 0, .int .u64 0, .string (⟨#[]⟩ : ByteArray), .slice none 0 0] 26 (0, 0)) (pK BK690.out) k_ hk_.2.1)⟩)) (below_size pB))
    have n1_ := am (pkb BK689.out hb)
    have n2_ := am (pkb BK690.out hb)
    have n3_ := am (below_step pB hb)
    clear BK689 BK690 HB; have HO696 := n0_; have BK689 := n1_; have BK690 := n2_; have HB := n3_; clear n0_ n1_ n2_ n3_; (try clear hb); (try clear hb2); (try clear hk); (try clear hi); (try clear ho0)
    refine hK.out _ _ ⟨cz0 BK689.out, cz1 BK689.out, cz2 BK689.out, cz3 BK689.out⟩ (fun hHeld => ?_)
    clear hK K
    refine norm_ (a' := ?_) ?_ ?_
    rotate_left
    ·show Act.put _ (some 7) _ = _
     exact pA
    refine one_ (i := 6) (N := some 11) (bm 9 127) rfl rfl (one_of HT_.out (by kernel_rfl)) (by decide) (fun K hK => ?_)
    refine goes_ Tryd.func28 (by kernel_rfl) rfl #[.int .u64 (IntKind.u64.wrap (a0_1))] (by rfl) rfl rfl pM ?_
    with_reducible refine (code_Number.calls (IntKind.u64.wrap (a0_1)) t697 t698 t699 t700 _ A3.out).mono ?_
    rintro e w87 ⟨v701, rfl, ho0, hb⟩
    refine ⟨_, rfl, ?_⟩
    have n0_ := am (Kd.N_elder' (pN HO696.out) (by first | exact Kd.R_base ho0 | exact Kd.N_base ho0) hb)
    have n1_ := am (Kd.N_lower (Kd.N_mono (ok' := fun k_ => (w.heap.size ≤ k_) ∧ some k_ ≠ (v695 : Value).ownBlock ∧ k_ ≠ gb689 ∧ k_ ≠ gb690) (Kd.R_N (Kd.R_bound ho0)) (fun k_ hk_ => ⟨(Nat.le_trans (below_size pB) hk_.2.1), (Kd.fresh' (Kd.N_lt (pN HO696.out)) k_ hk_.2.1), (Kd.freshB (g := gb689) (o := .cells #[.int .u64 a0_0, .int .i64 a0_1, .string a0_2, .slice A0_3 l0_3.length c0_3] 46 (0, 0)) (pK BK689.out) k_ hk_.2.1), (Kd.freshB (g := gb690) (o := .cells #[.int .i64 0, .int .u64 0, .string (⟨#[]⟩ : ByteArray), .slice none 0 0] 26 (0, 0)) (pK BK690.out) k_ hk_.2.1)⟩)) (below_size pB))
    have n2_ := am (pkb BK689.out hb)
    have n3_ := am (pkb BK690.out hb)
    have n4_ := am (below_step pB hb)
    clear HO696 BK689 BK690 HB; have HO696 := n0_; have HO702 := n1_; have BK689 := n2_; have BK690 := n3_; have HB := n4_; clear n0_ n1_ n2_ n3_ n4_; (try clear hb); (try clear hb2); (try clear hk); (try clear hi); (try clear ho0)
    obtain ⟨Ao88, co88, eo88⟩ := Kd.N_slice HO696.out
    (first | subst eo88 | (injection eo88 with f1_ f2_ f3_; have f4_ := f1_.symm; have f5_ := f3_.symm; clear f1_ f2_ f3_; subst f4_; subst f5_))
    obtain ⟨Ao89, co89, eo89⟩ := Kd.N_slice HO702.out
    (first | subst eo89 | (injection eo89 with f1_ f2_ f3_; have f4_ := f1_.symm; have f5_ := f3_.symm; clear f1_ f2_ f3_; subst f4_; subst f5_))
    refine hK.out _ _ ⟨cz0 BK689.out, cz1 BK689.out, cz2 BK689.out, cz3 BK689.out⟩ (fun hHeld => ?_)
    clear hK K
    refine norm_ (a' := ?_) ?_ ?_
    rotate_left
    ·show Act.put _ (some 11) _ = _
     exact pA
    refine one_ (i := 7) (N := some 12) (bm 9 255) rfl rfl (one_of HT_.out (by kernel_rfl)) (by decide) (fun K hK => ?_)
    refine Kd.N_lit_step k26 _ 26 ?hg (N' := 12) ?hd (xs := ([(⟨t691, t692, t693, t694⟩ : S26), (⟨t697, t698, t699, t700⟩ : S26)] : List (S26))) (inner := [.int .i64 t691, .int .u64 t692, .string t693, .slice Ao88 t694.length co88, .int .i64 t697, .int .u64 t698, .string t699, .slice Ao89 t700.length co89]) (ok := (fun k_ => (w.heap.size ≤ k_) ∧ k_ ≠ gb689 ∧ k_ ≠ gb690)) (okp := (fun k_ => (w.heap.size ≤ k_) ∧ k_ ≠ gb689 ∧ k_ ≠ gb690)) ?hr ?hp (fun _ hk => hk) ((show ∀ k_, w87.heap.size ≤ k_ → (fun k_ => (w.heap.size ≤ k_) ∧ k_ ≠ gb689 ∧ k_ ≠ gb690) k_ from fun k_ hk => ⟨(Nat.le_trans (below_size pB) hk), Kd.freshB (g := gb689) (o := .cells #[.int .u64 a0_0, .int .i64 a0_1, .string a0_2, .slice A0_3 l0_3.length c0_3] 46 (0, 0)) (pK BK689.out) k_ hk, Kd.freshB (g := gb690) (o := .cells #[.int .i64 0, .int .u64 0, .string (⟨#[]⟩ : ByteArray), .slice none 0 0] 26 (0, 0)) (pK BK690.out) k_ hk⟩) _ (Nat.le_refl _)) (Below.refl _ _) (Nat.le_refl _) (by simp) ?_; (case hd => rfl); (case hg => rfl); (case hr => first | (go_simp; done) | (go_simp; rfl)); (case hp => exact (Reps.c4 (show Kd.FK k26 _ _ (⟨t691, t692, t693, t694⟩ : S26) [.int .i64 t691, .int .u64 t692, .string t693, .slice Ao88 t694.length co88] from (k26_mkF _ _ (⟨t691, t692, t693, t694⟩ : S26) (Kd.N_reads' (Kd.N_mono (ok' := (fun k_ => (w.heap.size ≤ k_) ∧ k_ ≠ gb689 ∧ k_ ≠ gb690)) (HO696.out) (fun k_ hk => ⟨hk.1.1, ⟨hk.1.2.1, hk.1.2.2⟩⟩))).2.1 (Kd.N_F (Kd.N_mono (ok' := (fun k_ => (w.heap.size ≤ k_) ∧ k_ ≠ gb689 ∧ k_ ≠ gb690)) (HO696.out) (fun k_ hk => ⟨hk.1.1, ⟨hk.1.2.1, hk.1.2.2⟩⟩))))) (Reps.c4 (show Kd.FK k26 _ _ (⟨t697, t698, t699, t700⟩ : S26) [.int .i64 t697, .int .u64 t698, .string t699, .slice Ao89 t700.length co89] from (k26_mkF _ _ (⟨t697, t698, t699, t700⟩ : S26) (Kd.N_reads' (Kd.N_mono (ok' := (fun k_ => (w.heap.size ≤ k_) ∧ k_ ≠ gb689 ∧ k_ ≠ gb690)) (HO702.out) (fun k_ hk => ⟨hk.1, ⟨hk.2.2.1, hk.2.2.2⟩⟩))).2.1 (Kd.N_F (Kd.N_mono (ok' := (fun k_ => (w.heap.size ≤ k_) ∧ k_ ≠ gb689 ∧ k_ ≠ gb690)) (HO702.out) (fun k_ hk => ⟨hk.1, ⟨hk.2.2.1, hk.2.2.2⟩⟩))))) (Reps.none _ _))))
    intro v704 w90 ho91 hb hg_ hnew_
    clear hg_ hnew_
    (first | rw [← Ny703.out] at ho91 | (simp only [Int.reduceToNat] at ho91; rw [← Ny703.out] at ho91))
    have n0_ := am (Kd.N_lower ho91 (below_size pB))
    have n1_ := am (pkb BK689.out hb)
    have n2_ := am (pkb BK690.out hb)
    have n3_ := am (below_step pB hb)
    clear BK689 BK690 HB HO696 HO702; have HO705 := n0_; have BK689 := n1_; have BK690 := n2_; have HB := n3_; clear n0_ n1_ n2_ n3_ hb ho91
    refine hK.out _ _ ⟨cz0 BK689.out, cz1 BK689.out, cz2 BK689.out, cz3 BK689.out⟩ (fun hHeld => ?_)
    clear hK K
    refine norm_ (a' := ?_) ?_ ?_
    rotate_left
    ·show Act.put _ (some 12) _ = _
     exact pA
    refine pure_ (i := 8) (N := some 4) (v := ?_) (a' := ?_) (bm 9 511) rfl rfl (any_of HT_.out (by kernel_rfl)) (fun _ _ _ h => h) (Or.inl ⟨by kernel_rfl, ?_⟩) ?_ ?_
    rotate_left
    ·intro w'
     go_simp
     with_reducible rfl
    rotate_left
    ·exact pA
    refine done_ (done_of HT_.out (by kernel_rfl)) ?_
    have hnb92 := NB689_690.out
    have hnc92 := NB690_689.out
    have q93 := cf4 BK689.out
    have q94 := cf4 BK690.out
    try go_wp2
    refine bodyPost_ret (results_ct rfl _ _ gb690 26 #[.int .i64 0, .int .u64 0, .string (⟨#[]⟩ : ByteArray), .slice none 0 0] (0, 0) _ rfl (by (iterate 4 ((with_reducible repeat (first | refine blk_drewN ?_ _ | refine blk_drew ?_ | refine blk_alloc ?_ _)); refine blk_put (cs := #[.int .i64 0, .int .u64 0, .string (⟨#[]⟩ : ByteArray), .slice none 0 0]) ?_ _ _ rfl)); (with_reducible repeat (first | refine blk_drewN ?_ _ | refine blk_drew ?_ | refine blk_alloc ?_ _)); exact BK690.out) Tryd.underlying26 rfl (by kernel_rfl)) rfl ?_
    exact ⟨_, pE, pZ, pB⟩
end Go.Proofs.YtlkaffbgekbcfaaDoor.Pr
end
section
namespace Go.Proofs.YtlkaffbgekbcfaaDoor.Pr
open Go.RowKit Go.Proofs.YtlkaffbgekbcfaaDoorW.PrintWords Go.Proofs.YtlkaffbgekbcfaaDoorW.PrintLast Go.Proofs.YtlkaffbgekbcfaaDoorW.PrintMore
attribute [local go_sem] max2_int min2_int max_two min_two max_three min_three max_four min_four
end Go.Proofs.YtlkaffbgekbcfaaDoor.Pr
end
section
namespace Go.Proofs.YtlkaffbgekbcfaaDoor.Pr
open Go.RowKit Go.Proofs.YtlkaffbgekbcfaaDoorW.PrintWords Go.Proofs.YtlkaffbgekbcfaaDoorW.PrintLast Go.Proofs.YtlkaffbgekbcfaaDoorW.PrintMore
attribute [local go_sem] max2_int min2_int max_two min_two max_three min_three max_four min_four
end Go.Proofs.YtlkaffbgekbcfaaDoor.Pr
end
section
namespace Go.Proofs.YtlkaffbgekbcfaaDoor.Pr
open Go.RowKit Go.Proofs.YtlkaffbgekbcfaaDoorW.PrintWords Go.Proofs.YtlkaffbgekbcfaaDoorW.PrintLast Go.Proofs.YtlkaffbgekbcfaaDoorW.PrintMore
attribute [local go_sem] max2_int min2_int max_two min_two max_three min_three max_four min_four
def minstrelref07_List.f (l0 : List (S26)) : Option (Int × Int × ByteArray × (List (S26))) := some (2, 0, (⟨#[]⟩ : ByteArray), l0)
set_option maxHeartbeats 8000000 in
set_option maxRecDepth 100000 in
theorem minstrelref07_List.calls (P0_ : Nat → Prop) (A0 : Option Addr) (c0 : Nat) (l0 : List (S26)) (r1 : Int) (r2 : Int) (r3 : ByteArray) (r4 : List (S26)) (w : World) (hs0 : Kd.V k26 26 w w.heap.size (fun k_ => P0_ k_) (.slice A0 l0.length c0) l0) (h : minstrelref07_List.f l0 = some (r1, r2, r3, r4)) :
  Calls Tryd.prog 32 #[.slice A0 l0.length c0] w fun e w' => ∃ v3_ : Value, e = .returned (.agg #[.int .i64 r1, .int .u64 r2, .string r3, v3_]) ∧ Kd.V k26 26 w' w.heap.size (fun k_ => (P0_ k_ ∨ w.heap.size ≤ k_)) v3_ r4 ∧ Below w.heap.size w w' := by
 have hu26 := Tryd.underlying26
 have HO0 := am (show Kd.V k26 26 w w.heap.size (fun k_ => (P0_ k_ ∨ w.heap.size ≤ k_)) (.slice A0 l0.length c0) l0 from Kd.V_mono hs0 (fun k_ hk => .inl hk))
 have HB := am (Below.refl w.heap.size w)
 have H : (some (2, 0, (⟨#[]⟩ : ByteArray), l0)) = some (r1, r2, r3, r4) := h
 clear h
 simp only [Option.some.injEq, Prod.mk.injEq] at H
 obtain ⟨rfl, rfl, rfl, rfl⟩ := H
 go_enter Tryd.func32, Tryd.ntmps32
 go_wp2_with (first | ((with_reducible refine gate_dst (N := 2) rfl ?_); refine box_event ?hg (N := 2) ?hd (cs := #[.int .i64 0, .int .u64 0, .string (⟨#[]⟩ : ByteArray), .slice none 0 0]) (t := 26) ?hr ?_; (case hd => rfl); (case hg => rfl); (case hr => first | (go_simp; done) | (go_simp; rfl)); intro gb306 hg w2 hbox hb; replace HO0 := am (Kd.V_below (Kd.V_elderB (pV HO0.out) gb306 (Nat.le_of_eq hg.symm)) hb); have BK306 := am (hbox); have GW306 := am ((by rw [hg]; exact (below_size pB) : w.heap.size ≤ gb306)); have GE306 := am ((by rw [hg]; exact (below_size pB) : w.heap.size ≤ gb306)); replace HB := am (below_step pB hb); clear hb hbox hg; have q3 := cf4 BK306.out))
 refine bodyPost_ret (results_cell_row rfl _ _ gb306 26 #[.int .i64 2, .int .u64 0, .string (⟨#[]⟩ : ByteArray), .slice A0 l0.length c0] (0, 0) _ rfl (by (iterate 3 ((with_reducible repeat (first | refine blk_drewN ?_ _ | refine blk_drew ?_ | refine blk_alloc ?_ _)); refine blk_put (cs := #[.int .i64 2, .int .u64 0, .string (⟨#[]⟩ : ByteArray), .slice none 0 0]) ?_ _ _ rfl)); (with_reducible repeat (first | refine blk_drewN ?_ _ | refine blk_drew ?_ | refine blk_alloc ?_ _)); refine blk_put (cs := #[.int .i64 0, .int .u64 0, .string (⟨#[]⟩ : ByteArray), .slice none 0 0]) ?_ 0 _ rfl; (with_reducible repeat (first | refine blk_drewN ?_ _ | refine blk_drew ?_ | refine blk_alloc ?_ _)); exact BK306.out) Tryd.underlying26 rfl (by kernel_rfl)) rfl ?_
 exact ⟨_, pE, by (with_reducible repeat (first | apply Kd.V_alloc | apply Kd.V_drewN | apply Kd.V_drew)); exact Kd.V_mono (Kd.V_far (p := ⟨gb306, 3, none⟩) (Kd.V_far (p := ⟨gb306, 2, none⟩) (Kd.V_far (p := ⟨gb306, 1, none⟩) (Kd.V_far (p := ⟨gb306, 0, none⟩) (Kd.V_mono HO0.out (fun k_ hk => (⟨hk, hk.2⟩ : _ ∧ k_ ≠ gb306))) (fun _ hk => hk.2) (.int .i64 2)) (fun _ hk => hk.2) (.int .u64 0)) (fun _ hk => hk.2) (.string (⟨#[]⟩ : ByteArray))) (fun _ hk => hk.2) (.slice A0 l0.length c0)) (fun _ hk => hk.1.1), pB⟩
def minstrelref07_Number.f (a0 : Int) : Option (Int × Int × ByteArray × (List (S26))) := some (0, a0, (⟨#[]⟩ : ByteArray), ([] : List (S26)))
set_option maxHeartbeats 8000000 in
set_option maxRecDepth 100000 in
theorem minstrelref07_Number.calls (a0 : Int) (r1 : Int) (r2 : Int) (r3 : ByteArray) (r4 : List (S26)) (w : World) (h : minstrelref07_Number.f a0 = some (r1, r2, r3, r4)) :
  Calls Tryd.prog 33 #[.int .u64 a0] w fun e w' => ∃ v3_ : Value, e = .returned (.agg #[.int .i64 r1, .int .u64 r2, .string r3, v3_]) ∧ Kd.R k26 26 w' w.heap.size (fun _ => True) v3_ r4 ∧ Below w.heap.size w w' := by
 have hu26 := Tryd.underlying26
 have HB := am (Below.refl w.heap.size w)
 have H : (some (0, a0, (⟨#[]⟩ : ByteArray), ([] : List (S26)))) = some (r1, r2, r3, r4) := h
 clear h
 simp only [Option.some.injEq, Prod.mk.injEq] at H
 obtain ⟨rfl, rfl, rfl, rfl⟩ := H
 go_enter Tryd.func33, Tryd.ntmps33
 go_wp2_with (first | ((with_reducible refine gate_dst (N := 2) rfl ?_); refine box_event ?hg (N := 2) ?hd (cs := #[.int .i64 0, .int .u64 0, .string (⟨#[]⟩ : ByteArray), .slice none 0 0]) (t := 26) ?hr ?_; (case hd => rfl); (case hg => rfl); (case hr => first | (go_simp; done) | (go_simp; rfl)); intro gb307 hg w2 hbox hb; have BK307 := am (hbox); have GW307 := am ((by rw [hg]; exact (below_size pB) : w.heap.size ≤ gb307)); have GE307 := am ((by rw [hg]; exact (below_size pB) : w.heap.size ≤ gb307)); replace HB := am (below_step pB hb); clear hb hbox hg; have q3 := cf4 BK307.out))
 refine bodyPost_ret (results_cell_row rfl _ _ gb307 26 #[.int .i64 0, .int .u64 a0, .string (⟨#[]⟩ : ByteArray), .slice none 0 0] (0, 0) _ rfl (by (iterate 2 ((with_reducible repeat (first | refine blk_drewN ?_ _ | refine blk_drew ?_ | refine blk_alloc ?_ _)); refine blk_put (cs := #[.int .i64 0, .int .u64 a0, .string (⟨#[]⟩ : ByteArray), .slice none 0 0]) ?_ _ _ rfl)); (with_reducible repeat (first | refine blk_drewN ?_ _ | refine blk_drew ?_ | refine blk_alloc ?_ _)); refine blk_put (cs := #[.int .i64 0, .int .u64 0, .string (⟨#[]⟩ : ByteArray), .slice none 0 0]) ?_ 1 _ rfl; (with_reducible repeat (first | refine blk_drewN ?_ _ | refine blk_drew ?_ | refine blk_alloc ?_ _)); refine blk_put (cs := #[.int .i64 0, .int .u64 0, .string (⟨#[]⟩ : ByteArray), .slice none 0 0]) ?_ 0 _ rfl; (with_reducible repeat (first | refine blk_drewN ?_ _ | refine blk_drew ?_ | refine blk_alloc ?_ _)); exact BK307.out) Tryd.underlying26 rfl (by kernel_rfl)) rfl ?_
 exact ⟨_, pE, pZ, pB⟩
def minstrelref19_members.l0 : Nat → List Int → List (S26) → Int → Option (Int × Int × ByteArray × (List (S26)))
 | 0, _, _, _ => none
 | k + 1, x0, x3, x4 => if x4 < (x0.length : Int) then (if 0 ≤ x4 then ((minstrelref07_Number.f (IntKind.u64.wrap (rd x0 x4))).bind fun bt313 => (if x3.length < 2513169434916 then (minstrelref19_members.l0 k x0 (x3 ++ [(⟨bt313.1, bt313.2.1, bt313.2.2.1, bt313.2.2.2⟩ : S26)]) (wrap64 (x4 + 1))) else (none))) else (none)) else ((minstrelref07_List.f x3).bind fun bt322 => (some (bt322.1, bt322.2.1, bt322.2.2.1, bt322.2.2.2)))
def minstrelref19_members.f (k : Nat) (l0 : List Int) : Option (Int × Int × ByteArray × (List (S26))) := minstrelref19_members.l0 k l0 (([] : List (S26))) 0
set_option maxHeartbeats 8000000 in
set_option maxRecDepth 100000 in
theorem minstrelref19_members.calls (k : Nat) (A0 : Option Addr) (c0 : Nat) (l0 : List Int) (r1 : Int) (r2 : Int) (r3 : ByteArray) (r4 : List (S26)) (w : World) (hr0 : Kd.C (Kd.int .i64) w A0 l0.length l0) (hc0 : l0.length ≤ c0) (h : minstrelref19_members.f k l0 = some (r1, r2, r3, r4)) :
  Calls Tryd.prog 34 #[.slice A0 l0.length c0] w fun e w' => ∃ v3_ : Value, e = .returned (.agg #[.int .i64 r1, .int .u64 r2, .string r3, v3_]) ∧ Kd.V k26 26 w' w.heap.size (fun k_ => (w.heap.size ≤ k_)) v3_ r4 ∧ Below w.heap.size w w' := by
 have hu26 := Tryd.underlying26
 have HR0 := am hr0
 have HC0 := am hc0
 clear hr0 hc0
 have HB := am (Below.refl w.heap.size w)
 have H : (minstrelref19_members.l0 k l0 (([] : List (S26))) 0) = some (r1, r2, r3, r4) := h
 clear h
 obtain ⟨y309, hy309⟩ : ∃ y_ : List (S26), y_ = (([] : List (S26))) := ⟨_, rfl⟩
 replace H : (minstrelref19_members.l0 k l0 y309 0) = some (r1, r2, r3, r4) := by first | (rw [hy309]; with_reducible exact H) | (have H2_ := (Option.bind_some _ _).symm.trans H; rw [hy309]; with_reducible exact H2_) | (have H2_ := (Option.bind_some _ _).symm.trans H; with_reducible exact H2_) | with_reducible exact H | (rw [hy309]; exact H) | exact H
 have Ny309 := am hy309
 clear hy309
 have H' := am H
 clear H
 go_enter Tryd.func34, Tryd.ntmps34
 go_wp2_with (first | ((with_reducible refine gate_dst (N := 2) rfl ?_); refine box_event ?hg (N := 2) ?hd (cs := #[.int .i64 0, .int .u64 0, .string (⟨#[]⟩ : ByteArray), .slice none 0 0]) (t := 26) ?hr ?_; (case hd => rfl); (case hg => rfl); (case hr => first | (go_simp; done) | (go_simp; rfl)); intro gb308 hg w2 hbox hb; have BK308 := am (hbox); have GW308 := am ((by rw [hg]; exact (below_size pB) : w.heap.size ≤ gb308)); have GE308 := am ((by rw [hg]; exact (below_size pB) : w.heap.size ≤ gb308)); replace HB := am (below_step pB hb); clear hb hbox hg) | ((with_reducible refine gate_dst (N := 5) rfl ?_); refine Kd.R_lit k26 _ 26 ?hg (N := 5) ?hd (xs := ([] : List (S26))) (inner := []) (ok := fun _ => True) (okp := fun _ => True) ?hr ?hp (fun _ hk => hk) trivial (Below.refl _ _) (Nat.le_refl _) (by simp) ?_; (case hd => rfl); (case hg => rfl); (case hr => first | (go_simp; done) | (go_simp; rfl)); (case hp => exact (Reps.none _ _)); intro v310 w3 ho4 hb hg_ hnew_; clear hg_ hnew_; (first | rw [← Ny309.out] at ho4 | (simp only [Int.reduceToNat] at ho4; rw [← Ny309.out] at ho4)); have HO311 := am (Kd.R_lower (Kd.R_newB (Kd.R_newM (M := fun k_ => (w.heap.size ≤ k_)) ho4 (below_size pB) (fun k_ h_ => h_)) (g := gb308) (o := .cells #[.int .i64 0, .int .u64 0, .string (⟨#[]⟩ : ByteArray), .slice none 0 0] 26 (0, 0)) (pK BK308.out)) (below_size pB)); replace BK308 := am (pkb BK308.out hb); replace HB := am (below_step pB hb); clear hb ho4))
 go_loopg [3, 4] k (fun kq v3 v4 w' => ∃ (x3_1 : List (S26)) (x4_1 : Int), v4 = .int .i64 x4_1 ∧ Aside0 (minstrelref19_members.l0 kq l0 x3_1 x4_1 = some (r1, r2, r3, r4)) ∧ Aside0 (kq ≤ k) ∧ Aside0 (Kd.R k26 26 w' w.heap.size (fun k_ => (w.heap.size ≤ k_) ∧ k_ ≠ gb308) v3 x3_1) ∧ Aside0 (w'.heap[gb308]? = some (.cells #[.int .i64 0, .int .u64 0, .string (⟨#[]⟩ : ByteArray), (.slice none 0 0)] 26 (0, 0))) ∧ Aside0 (Below w.heap.size w w'))
 case atStart => exact ⟨(y309), (0), (by first | rfl | (simp; done) | (simp [*]; done)), H', ⟨Nat.le_refl _⟩, ⟨by (with_reducible repeat (first | apply Kd.R_alloc | apply Kd.R_drewN | apply Kd.R_drew)); exact Kd.R_mono HO311.out (fun _ hk => ⟨hk.1.1, hk.2⟩)⟩, ⟨by (with_reducible repeat (first | refine blk_drewN ?_ _ | refine blk_drew ?_ | refine blk_alloc ?_ _)); exact BK308.out⟩, ⟨pB⟩⟩
 case round =>
  clear H'
  try clear p2
  try clear c3
  obtain ⟨x3_1, x4_1, rfl, HA, HK1, HO_3, BK308, HB⟩ := hrel
  cases gk with
  | zero => exact absurd HA.out (by simp [minstrelref19_members.l0])
  | succ k1 =>
   have H := HA.out
   clear HA
   simp only [minstrelref19_members.l0] at H
   by_cases c5 : x4_1 < (l0.length : Int)
   ·rw [if_pos c5] at H
    have c5b0 : decide (x4_1 < (l0.length : Int)) = true := decide_eq_true c5
    clear c5
    by_cases c6 : 0 ≤ x4_1
    ·rw [if_pos c6] at H
     have c6b0 : decide (0 ≤ x4_1) = true := decide_eq_true c6
     clear c6
     replace H := Option.bind_eq_some_iff.mp H
     obtain ⟨⟨t313, t314, t315, t316⟩, A70, H⟩ := H
     try dsimp only at H
     have A7 := am A70
     clear A70
     by_cases c8 : x3_1.length < 2513169434916
     ·rw [if_pos c8] at H
      have LMc8 := am c8
      clear c8
      obtain ⟨y319, hy319⟩ : ∃ y_ : List (S26), y_ = (x3_1 ++ [(⟨t313, t314, t315, t316⟩ : S26)]) := ⟨_, rfl⟩
      replace H : (minstrelref19_members.l0 k1 l0 y319 (wrap64 (x4_1 + 1))) = some (r1, r2, r3, r4) := by first | (rw [hy319]; with_reducible exact H) | (have H2_ := (Option.bind_some _ _).symm.trans H; rw [hy319]; with_reducible exact H2_) | (have H2_ := (Option.bind_some _ _).symm.trans H; with_reducible exact H2_) | with_reducible exact H | (rw [hy319]; exact H) | exact H
      have Ny319 := am hy319
      clear hy319
      have H' := am H
      clear H
      have p312 : 0 ≤ (x4_1 : Int) := pD
      have q312 : x4_1 < (l0.length : Int) := pD
      obtain ⟨ad312, e312, hx312_0⟩ := Kd.at_int HR0.out x4_1 p312 q312
      cases e312
      replace hx312_0 := (HB.out.cell (World.block_lt_of_cell? w _ hx312_0)).trans hx312_0
      replace p312 := eq_true p312
      replace q312 := eq_true q312
      go_wp2_with (first | ((with_reducible refine gate_callee (f := 33) rfl ?_); refine goesL_ (some 18) rfl rfl Tryd.func33 (by kernel_rfl) rfl #[.int .u64 (IntKind.u64.wrap (rd l0 x4_1))] rfl pM ?_; (with_reducible refine (minstrelref07_Number.calls (IntKind.u64.wrap (rd l0 x4_1)) t313 t314 t315 t316 _ A7.out).mono ?_); rintro e w9 ⟨v317, rfl, ho0, hb⟩; refine ⟨_, rfl, ?_⟩; have HO318 := am (Kd.R_lower (Kd.R_newB (Kd.R_new' (Kd.R_newM (M := fun k_ => (w.heap.size ≤ k_)) ho0 (below_size pB) (fun k_ h_ => h_)) (Kd.R_lt (pR HO_3.out))) (g := gb308) (o := .cells #[.int .i64 0, .int .u64 0, .string (⟨#[]⟩ : ByteArray), .slice none 0 0] 26 (0, 0)) (pK BK308.out)) (below_size pB)); replace HO_3 := am (Kd.R_elder' (pR HO_3.out) (Kd.R_base ho0) hb); replace BK308 := am (pkb BK308.out hb); replace HB := am (below_step pB hb); (try clear hb); (try clear hb2); (try clear hk); (try clear hi); (try clear ho0); obtain ⟨Ao11, co11, eo11⟩ := Kd.R_slice HO318.out; subst eo11) | ((with_reducible refine gate_builtin (b := .append) (xs := #[.tmp 12, .tmp 19]) rfl ?_); at_builtin; refine Kd.R_append k26 (w0 := w) w.heap.size rfl (.tmp 12) (.tmp 19) 24 26 (.agg #[(.int .i64 0), (.int .u64 0), (.string ⟨#[]⟩), (.slice none 0 0)]) 56 rfl Tryd.underlying24 info26 rfl (by decide) (by omega) u3 x3_1 (⟨t313, t314, t315, t316⟩ : S26) [.int .i64 t313, .int .u64 t314, .string t315, .slice Ao11 t316.length co11] (fun k_ => (w.heap.size ≤ k_) ∧ k_ ≠ gb308) (fun k_ => ((fun k_ => (w.heap.size ≤ k_) ∧ k_ ≠ gb308)) k_ ∧ some k_ ≠ (u3 : Value).ownBlock) rfl rfl ?aP (fun _ hk => hk) ?aF ?aO ?aB ?aS ?aL ?_; (case aP => exact k26_mkM _ _ _ (⟨t313, t314, t315, t316⟩ : S26) (Kd.R_mono (HO318.out) (fun k_ hk => ⟨⟨hk.1.1.1, hk.2⟩, hk.1.2⟩))); (case aB => exact pB); (case aF => exact (fun k_ hk => ⟨(Nat.le_trans (below_size pB) hk), Kd.freshB (g := gb308) (o := .cells #[.int .i64 0, .int .u64 0, .string (⟨#[]⟩ : ByteArray), .slice none 0 0] 26 (0, 0)) (pK BK308.out) k_ hk⟩)); (case aO => exact (by (with_reducible repeat (first | apply Kd.R_alloc | apply Kd.R_drewN | apply Kd.R_drew)); exact Kd.R_mono HO_3.out (fun _ hk => ⟨hk.1.1, hk.1.2⟩))); (case aS => exact (below_size pB)); (case aL => have := LMc8.out; omega); intro v320 w10 ho hb hg hat; rw [← Ny319.out] at ho; replace BK308 := am (blk_grown (g := gb308) (o := .cells #[.int .i64 0, .int .u64 0, .string (⟨#[]⟩ : ByteArray), .slice none 0 0] 26 (0, 0)) (pK BK308.out) hg (Kd.R_away HO_3.out (fun _ hk => hk.1.2))); replace HB := am (hb); have HO321 := am (ho); clear HO_3 HO318; clear ho hb hg hat))
      go_roundg k1
      case measure => have := HK1.out; omega
      case rel => exact ⟨(y319), (wrap64 (x4_1 + 1)), (by first | rfl | (simp; done) | (simp [*]; done)), H', ⟨by have := HK1.out; omega⟩, ⟨by (with_reducible repeat (first | apply Kd.R_alloc | apply Kd.R_drewN | apply Kd.R_drew)); exact HO321.out⟩, ⟨by (with_reducible repeat (first | refine blk_drewN ?_ _ | refine blk_drew ?_ | refine blk_alloc ?_ _)); exact BK308.out⟩, ⟨pB⟩⟩
     ·rw [if_neg c8] at H
      exact absurd H (by simp)
    ·rw [if_neg c6] at H
     exact absurd H (by simp)
   ·rw [if_neg c5] at H
    have c5b0 : decide (x4_1 < (l0.length : Int)) = false := decide_eq_false c5
    clear c5
    replace H := Option.bind_eq_some_iff.mp H
    obtain ⟨⟨t322, t323, t324, t325⟩, A120, H⟩ := H
    try dsimp only at H
    have A12 := am A120
    clear A120
    simp only [Option.some.injEq, Prod.mk.injEq] at H
    obtain ⟨rfl, rfl, rfl, rfl⟩ := H
    obtain ⟨Ao13, co13, eo13⟩ := Kd.R_slice HO_3.out
    subst eo13
    go_wp2_with (first | ((with_reducible refine gate_callee (f := 32) rfl ?_); refine goesL_ (some 22) rfl rfl Tryd.func32 (by kernel_rfl) rfl #[.slice Ao13 x3_1.length co13] rfl pM ?_; (with_reducible refine (minstrelref07_List.calls (fun k_ => ((w.heap.size ≤ k_) ∧ k_ ≠ gb308)) _ _ x3_1 t322 t323 t324 t325 _ ?side1 A12.out).mono ?_); (case side1 => exact Kd.R_V (HO_3.out)); rintro e w14 ⟨v326, rfl, ho0, hb⟩; refine ⟨_, rfl, ?_⟩; replace HO_3 := am (Kd.R_below (pR HO_3.out) hb); have HO327 := am (Kd.V_lower (Kd.V_mono (ok' := fun k_ => (w.heap.size ≤ k_) ∧ k_ ≠ gb308) ho0 (fun k_ hk_ => ⟨Or.elim hk_ (fun hs_ => hs_.1) (fun hn_ => (Nat.le_trans (below_size pB) hn_)), Or.elim hk_ (fun hs_ => hs_.2) (fun hn_ => (Kd.freshB (g := gb308) (o := .cells #[.int .i64 0, .int .u64 0, .string (⟨#[]⟩ : ByteArray), .slice none 0 0] 26 (0, 0)) (pK BK308.out) k_ hn_))⟩)) (below_size pB)); replace BK308 := am (pkb BK308.out hb); replace HB := am (below_step pB hb); (try clear hb); (try clear hb2); (try clear hk); (try clear hi); (try clear ho0); have q15 := cf4 BK308.out; obtain ⟨Ao16, co16, eo16⟩ := Kd.V_slice HO327.out; subst eo16))
    refine bodyPost_ret (results_cell_row rfl _ _ gb308 26 #[.int .i64 t322, .int .u64 t323, .string t324, .slice Ao16 t325.length co16] (0, 0) _ rfl (by (with_reducible repeat (first | refine blk_drewN ?_ _ | refine blk_drew ?_ | refine blk_alloc ?_ _)); refine blk_put (cs := #[.int .i64 t322, .int .u64 t323, .string t324, .slice none 0 0]) ?_ 3 _ rfl; (with_reducible repeat (first | refine blk_drewN ?_ _ | refine blk_drew ?_ | refine blk_alloc ?_ _)); refine blk_put (cs := #[.int .i64 t322, .int .u64 t323, .string (⟨#[]⟩ : ByteArray), .slice none 0 0]) ?_ 2 _ rfl; (with_reducible repeat (first | refine blk_drewN ?_ _ | refine blk_drew ?_ | refine blk_alloc ?_ _)); refine blk_put (cs := #[.int .i64 t322, .int .u64 0, .string (⟨#[]⟩ : ByteArray), .slice none 0 0]) ?_ 1 _ rfl; (with_reducible repeat (first | refine blk_drewN ?_ _ | refine blk_drew ?_ | refine blk_alloc ?_ _)); refine blk_put (cs := #[.int .i64 0, .int .u64 0, .string (⟨#[]⟩ : ByteArray), .slice none 0 0]) ?_ 0 _ rfl; (with_reducible repeat (first | refine blk_drewN ?_ _ | refine blk_drew ?_ | refine blk_alloc ?_ _)); exact BK308.out) Tryd.underlying26 rfl (by kernel_rfl)) rfl ?_
    exact ⟨_, pE, by (with_reducible repeat (first | apply Kd.V_alloc | apply Kd.V_drewN | apply Kd.V_drew)); exact Kd.V_mono (Kd.V_far (p := ⟨gb308, 3, none⟩) (Kd.V_far (p := ⟨gb308, 2, none⟩) (Kd.V_far (p := ⟨gb308, 1, none⟩) (Kd.V_far (p := ⟨gb308, 0, none⟩) (Kd.V_mono HO327.out (fun k_ hk => (⟨hk, hk.2⟩ : _ ∧ k_ ≠ gb308))) (fun _ hk => hk.2) (.int .i64 t322)) (fun _ hk => hk.2) (.int .u64 t323)) (fun _ hk => hk.2) (.string t324)) (fun _ hk => hk.2) (.slice Ao16 t325.length co16)) (fun _ hk => hk.1.1), pB⟩
end Go.Proofs.YtlkaffbgekbcfaaDoor.Pr
end
section
namespace Go.Proofs.YtlkaffbgekbcfaaDoor.Pr
open Go.RowKit Go.Proofs.YtlkaffbgekbcfaaDoorW.PrintWords Go.Proofs.YtlkaffbgekbcfaaDoorW.PrintLast Go.Proofs.YtlkaffbgekbcfaaDoorW.PrintMore
attribute [local go_sem] max2_int min2_int max_two min_two max_three min_three max_four min_four
def minstrelref07_Text.f (a0 : ByteArray) : Option (Int × Int × ByteArray × (List (S26))) := some (1, 0, a0, ([] : List (S26)))
set_option maxHeartbeats 8000000 in
set_option maxRecDepth 100000 in
theorem minstrelref07_Text.calls (a0 : ByteArray) (r1 : Int) (r2 : Int) (r3 : ByteArray) (r4 : List (S26)) (w : World) (h : minstrelref07_Text.f a0 = some (r1, r2, r3, r4)) :
  Calls Tryd.prog 44 #[.string a0] w fun e w' => ∃ v3_ : Value, e = .returned (.agg #[.int .i64 r1, .int .u64 r2, .string r3, v3_]) ∧ Kd.R k26 26 w' w.heap.size (fun _ => True) v3_ r4 ∧ Below w.heap.size w w' := by
 have hu26 := Tryd.underlying26
 have HB := am (Below.refl w.heap.size w)
 have H : (some (1, 0, a0, ([] : List (S26)))) = some (r1, r2, r3, r4) := h
 clear h
 simp only [Option.some.injEq, Prod.mk.injEq] at H
 obtain ⟨rfl, rfl, rfl, rfl⟩ := H
 go_enter Tryd.func44, Tryd.ntmps44
 go_wp2_with (first | ((with_reducible refine gate_dst (N := 2) rfl ?_); refine box_event ?hg (N := 2) ?hd (cs := #[.int .i64 0, .int .u64 0, .string (⟨#[]⟩ : ByteArray), .slice none 0 0]) (t := 26) ?hr ?_; (case hd => rfl); (case hg => rfl); (case hr => first | (go_simp; done) | (go_simp; rfl)); intro gb725 hg w2 hbox hb; have BK725 := am (hbox); have GW725 := am ((by rw [hg]; exact (below_size pB) : w.heap.size ≤ gb725)); have GE725 := am ((by rw [hg]; exact (below_size pB) : w.heap.size ≤ gb725)); replace HB := am (below_step pB hb); clear hb hbox hg; have q3 := cf4 BK725.out))
 refine bodyPost_ret (results_cell_row rfl _ _ gb725 26 #[.int .i64 1, .int .u64 0, .string a0, .slice none 0 0] (0, 0) _ rfl (by (with_reducible repeat (first | refine blk_drewN ?_ _ | refine blk_drew ?_ | refine blk_alloc ?_ _)); refine blk_put (cs := #[.int .i64 1, .int .u64 0, .string a0, .slice none 0 0]) ?_ 3 _ rfl; (iterate 2 ((with_reducible repeat (first | refine blk_drewN ?_ _ | refine blk_drew ?_ | refine blk_alloc ?_ _)); refine blk_put (cs := #[.int .i64 1, .int .u64 0, .string (⟨#[]⟩ : ByteArray), .slice none 0 0]) ?_ _ _ rfl)); (with_reducible repeat (first | refine blk_drewN ?_ _ | refine blk_drew ?_ | refine blk_alloc ?_ _)); refine blk_put (cs := #[.int .i64 0, .int .u64 0, .string (⟨#[]⟩ : ByteArray), .slice none 0 0]) ?_ 0 _ rfl; (with_reducible repeat (first | refine blk_drewN ?_ _ | refine blk_drew ?_ | refine blk_alloc ?_ _)); exact BK725.out) Tryd.underlying26 rfl (by kernel_rfl)) rfl ?_
 exact ⟨_, pE, pZ, pB⟩
mutual
def minstrelref19_EntryCell.j0 : Nat → List (S26) → Bool → Int → Int → ByteArray → List Int → Option (Int × Int × ByteArray × (List (S26)) × Int)
 | 0, _, _, _, _, _, _ => none
 | k + 1, x4, x31, x727000, x727001, x727002, x727003 => if x31 = true then (some (0, 0, (⟨#[]⟩ : ByteArray), ([] : List (S26)), 1)) else (if x727001 = 1 then (if (x727002.size : Int) > 65536 then (some (0, 0, (⟨#[]⟩ : ByteArray), ([] : List (S26)), 2)) else ((minstrelref07_Text.f x727002).bind fun bt744 => (if x4.length < 2513169434916 then (minstrelref19_EntryCell.j1 k (x4 ++ [(⟨bt744.1, bt744.2.1, bt744.2.2.1, bt744.2.2.2⟩ : S26)]) x727000 x727001 x727002 x727003) else (none)))) else (minstrelref19_EntryCell.j1 k x4 x727000 x727001 x727002 x727003))
def minstrelref19_EntryCell.j1 : Nat → List (S26) → Int → Int → ByteArray → List Int → Option (Int × Int × ByteArray × (List (S26)) × Int)
 | 0, _, _, _, _, _ => none
 | k + 1, x4, x727000, x727001, x727002, x727003 => if x727001 = 2 then ((minstrelref19_members.f k x727003).bind fun bt753 => (if x4.length < 2513169434916 then ((minstrelref07_List.f (x4 ++ [(⟨bt753.1, bt753.2.1, bt753.2.2.1, bt753.2.2.2⟩ : S26)])).bind fun bt762 => (some (bt762.1, bt762.2.1, bt762.2.2.1, bt762.2.2.2, 0))) else (none))) else ((minstrelref07_List.f x4).bind fun bt768 => (some (bt768.1, bt768.2.1, bt768.2.2.1, bt768.2.2.2, 0)))
end
def minstrelref19_EntryCell.f (k : Nat) (a0_0 : Int) (a0_1 : Int) (a0_2 : ByteArray) (l0_3 : List Int) : Option (Int × Int × ByteArray × (List (S26)) × Int) := (minstrelref07_Number.f a0_0).bind fun bt728 => ((minstrelref07_Number.f (IntKind.u64.wrap (a0_1))).bind fun bt734 => ((some (([(⟨bt728.1, bt728.2.1, bt728.2.2.1, bt728.2.2.2⟩ : S26), (⟨bt734.1, bt734.2.1, bt734.2.2.1, bt734.2.2.2⟩ : S26)] : List (S26)) : List (S26))).bind fun y740 => (if a0_1 < 0 then (minstrelref19_EntryCell.j0 k y740 true a0_0 a0_1 a0_2 l0_3) else (if a0_1 > 2 then (minstrelref19_EntryCell.j0 k y740 true a0_0 a0_1 a0_2 l0_3) else (if a0_1 = 2 then ((minstrelref19_Members.f k l0_3).bind fun t743 => (minstrelref19_EntryCell.j0 k y740 (!t743) a0_0 a0_1 a0_2 l0_3)) else (minstrelref19_EntryCell.j0 k y740 false a0_0 a0_1 a0_2 l0_3))))))
def minstrelref19_EntryCell.T1 : Bool × List (List Nat × List Nat) := (true, [([], []), ([0], [0]), ([1], [1]), ([], []), ([3], [3]), ([4], [4]), ([5, 2], [5]), ([2, 6], [2, 6]), ([7, 6, 0, 1, 2, 3, 4, 5, 6, 7], [7])])
def minstrelref19_EntryCell.B1 : List Nat := [0, 1, 3, 0, 8, 24, 63, 127, 255]
theorem minstrelref19_EntryCell.tab1 : rtab .any (opsOf Tryd.f18 1) = minstrelref19_EntryCell.T1 := by kernel_rfl
theorem minstrelref19_EntryCell.bits1 : waitsOk minstrelref19_EntryCell.T1.2 minstrelref19_EntryCell.B1 = true := by kernel_rfl
set_option maxHeartbeats 8000000 in
set_option maxRecDepth 100000 in
theorem minstrelref19_EntryCell.calls (k : Nat) (a0_0 : Int) (a0_1 : Int) (a0_2 : ByteArray) (A0_3 : Option Addr) (c0_3 : Nat) (l0_3 : List Int) (r1 : Int) (r2 : Int) (r3 : ByteArray) (r4 : List (S26)) (r5 : Int) (w : World) (hr0_3 : Kd.C (Kd.int .i64) w A0_3 l0_3.length l0_3) (hc0_3 : l0_3.length ≤ c0_3) (h : minstrelref19_EntryCell.f k a0_0 a0_1 a0_2 l0_3 = some (r1, r2, r3, r4, r5)) :
  Calls Tryd.prog 18 #[.agg #[.int .u64 a0_0, .int .i64 a0_1, .string a0_2, .slice A0_3 l0_3.length c0_3]] w fun e w' => ∃ v3_ : Value, e = .returned (.tuple #[.agg #[.int .i64 r1, .int .u64 r2, .string r3, v3_], .int .i64 r5]) ∧ Kd.V k26 26 w' w.heap.size (fun k_ => (w.heap.size ≤ k_)) v3_ r4 ∧ Below w.heap.size w w' := by
 have hu46 := Tryd.underlying46
 have hu26 := Tryd.underlying26
 have HR0_3 := am hr0_3
 have HC0_3 := am hc0_3
 clear hr0_3 hc0_3
 have HB := am (Below.refl w.heap.size w)
 have H : ((minstrelref07_Number.f a0_0).bind fun bt728 => ((minstrelref07_Number.f (IntKind.u64.wrap (a0_1))).bind fun bt734 => ((some (([(⟨bt728.1, bt728.2.1, bt728.2.2.1, bt728.2.2.2⟩ : S26), (⟨bt734.1, bt734.2.1, bt734.2.2.1, bt734.2.2.2⟩ : S26)] : List (S26)) : List (S26))).bind fun y740 => (if a0_1 < 0 then (minstrelref19_EntryCell.j0 k y740 true a0_0 a0_1 a0_2 l0_3) else (if a0_1 > 2 then (minstrelref19_EntryCell.j0 k y740 true a0_0 a0_1 a0_2 l0_3) else (if a0_1 = 2 then ((minstrelref19_Members.f k l0_3).bind fun t743 => (minstrelref19_EntryCell.j0 k y740 (!t743) a0_0 a0_1 a0_2 l0_3)) else (minstrelref19_EntryCell.j0 k y740 false a0_0 a0_1 a0_2 l0_3))))))) = some (r1, r2, r3, r4, r5) := h
 clear h
 replace H := Option.bind_eq_some_iff.mp H
 obtain ⟨⟨t728, t729, t730, t731⟩, A20, H⟩ := H
 try dsimp only at H
 have A2 := am A20
 clear A20
 replace H := Option.bind_eq_some_iff.mp H
 obtain ⟨⟨t734, t735, t736, t737⟩, A30, H⟩ := H
 try dsimp only at H
 have A3 := am A30
 clear A30
 obtain ⟨y740, hy740⟩ : ∃ y_ : List (S26), y_ = (([(⟨t728, t729, t730, t731⟩ : S26), (⟨t734, t735, t736, t737⟩ : S26)] : List (S26))) := ⟨_, rfl⟩
 replace H : (if a0_1 < 0 then (minstrelref19_EntryCell.j0 k y740 true a0_0 a0_1 a0_2 l0_3) else (if a0_1 > 2 then (minstrelref19_EntryCell.j0 k y740 true a0_0 a0_1 a0_2 l0_3) else (if a0_1 = 2 then ((minstrelref19_Members.f k l0_3).bind fun t743 => (minstrelref19_EntryCell.j0 k y740 (!t743) a0_0 a0_1 a0_2 l0_3)) else (minstrelref19_EntryCell.j0 k y740 false a0_0 a0_1 a0_2 l0_3)))) = some (r1, r2, r3, r4, r5) := by first | (rw [hy740]; with_reducible exact H) | (have H2_ := (Option.bind_some _ _).symm.trans H; rw [hy740]; with_reducible exact H2_) | (have H2_ := (Option.bind_some _ _).symm.trans H; with_reducible exact H2_) | with_reducible exact H | (rw [hy740]; exact H) | exact H
 have Ny740 := am hy740
 clear hy740
 have HC4 := am H
 clear H
 go_enter Tryd.func18, Tryd.ntmps18
 try go_wp2_with (first | ((with_reducible refine gate_dst (N := 1) rfl ?_); refine box_event ?hg (N := 1) ?hd (cs := #[.int .u64 a0_0, .int .i64 a0_1, .string a0_2, .slice A0_3 l0_3.length c0_3]) (t := 46) ?hr ?_; (case hd => rfl); (case hg => rfl); (case hr => first | (go_simp; done) | (go_simp; rfl)); intro gb726 hg w5 hbox hb; have BK726 := am (hbox); have GW726 := am ((by rw [hg]; exact (below_size pB) : w.heap.size ≤ gb726)); have GE726 := am ((by rw [hg]; exact (below_size pB) : w.heap.size ≤ gb726)); replace HB := am (below_step pB hb); clear hb hbox hg) | ((with_reducible refine gate_dst (N := 2) rfl ?_); refine box_event ?hg (N := 2) ?hd (cs := #[.int .i64 0, .int .u64 0, .string (⟨#[]⟩ : ByteArray), .slice none 0 0]) (t := 26) ?hr ?_; (case hd => rfl); (case hg => rfl); (case hr => first | (go_simp; done) | (go_simp; rfl)); intro gb727 hg w6 hbox hb; have BK727 := am (hbox); have GW727 := am ((by rw [hg]; exact (below_size pB) : w.heap.size ≤ gb727)); have GE727 := am ((by rw [hg]; exact (below_size pB) : w.heap.size ≤ gb727)); have NB726_727 := am ((by rw [hg]; exact Nat.ne_of_lt (pkl BK726.out) : gb726 ≠ gb727)); have NB727_726 := am ((by rw [hg]; exact Nat.ne_of_gt (pkl BK726.out) : gb727 ≠ gb726)); replace BK726 := am (pkb BK726.out hb); replace HB := am (below_step pB hb); clear hb hbox hg))
 replace BK726 := am (blk_drew BK726.out)
 replace BK727 := am (blk_drew BK727.out)
 replace HB := am (below_drew1 HB.out)
 refine start_ (n := 9) (S := fun w' => w'.cell? ⟨gb726, 0, none⟩ = some (.int .u64 a0_0) ∧ w'.cell? ⟨gb726, 1, none⟩ = some (.int .i64 a0_1) ∧ w'.cell? ⟨gb726, 2, none⟩ = some (.string a0_2) ∧ w'.cell? ⟨gb726, 3, none⟩ = some (.slice A0_3 l0_3.length c0_3)) (ds := []) (bm 9 0) (by kernel_rfl) rfl rfl ⟨cz0 BK726.out, cz1 BK726.out, cz2 BK726.out, cz3 BK726.out⟩ (fun hHeld => ?_); refine with_tabW minstrelref19_EntryCell.tab1 minstrelref19_EntryCell.bits1 (fun HT_ HW_ => ?_)
 generalize w6.drew = w7 at BK726 BK727 HB hHeld ⊢
 refine pure_ (i := 0) (N := some 5) (v := ?_) (a' := ?_) (bm 9 1) rfl rfl (any_of HT_.out (by kernel_rfl)) (fun _ _ _ h => h) (Or.inl ⟨by kernel_rfl, ?_⟩) ?_ ?_
 rotate_left
 ·intro w'
  go_simp
  with_reducible rfl
 rotate_left
 ·exact pA
 refine pure_ (i := 3) (N := some 8) (v := ?_) (a' := ?_) (bm 9 9) rfl rfl (any_of HT_.out (by kernel_rfl)) (fun _ _ _ h => h) (Or.inl ⟨by kernel_rfl, ?_⟩) ?_ ?_
 rotate_left
 ·intro w'
  go_simp
  with_reducible rfl
 rotate_left
 ·exact pA
 refine take_ (i := 1) (N := some 6) (v := ?_) (a' := ?_) (bm 9 11) rfl rfl (take_ofW HT_.out HW_.out (by kernel_rfl)) (fun _ _ _ h => h) (Or.inl ⟨by kernel_rfl, ?_⟩) hHeld ?_ ?_
 rotate_left
 ·rintro w' ⟨s0, s1, s2, s3⟩
  go_simp
  with_reducible rfl
 rotate_left
 ·exact pA
 refine take_ (i := 4) (N := some 9) (v := ?_) (a' := ?_) (bm 9 27) rfl rfl (take_ofW HT_.out HW_.out (by kernel_rfl)) (fun _ _ _ h => h) (Or.inl ⟨by kernel_rfl, ?_⟩) hHeld ?_ ?_
 rotate_left
 ·rintro w' ⟨s0, s1, s2, s3⟩
  go_simp
  with_reducible rfl
 rotate_left
 ·exact pA
 refine pure_ (i := 5) (N := some 10) (v := ?_) (a' := ?_) (bm 9 59) rfl rfl (any_of HT_.out (by kernel_rfl)) (fun _ _ _ h => h) (Or.inl ⟨by kernel_rfl, ?_⟩) ?_ ?_
 rotate_left
 ·intro w'
  go_simp
  with_reducible rfl
 rotate_left
 ·exact pA
 refine one_ (i := 2) (N := some 7) (bm 9 63) rfl rfl (one_of HT_.out (by kernel_rfl)) (by decide) (fun K hK => ?_)
 refine goes_ Tryd.func33 (by kernel_rfl) rfl #[.int .u64 a0_0] (by rfl) rfl rfl pM ?_
 with_reducible refine (minstrelref07_Number.calls a0_0 t728 t729 t730 t731 _ A2.out).mono ?_
 rintro e w8 ⟨v732, rfl, ho0, hb⟩
 refine ⟨_, rfl, ?_⟩
 have n0_ := am (Kd.N_lower (Kd.N_mono (ok' := fun k_ => (w.heap.size ≤ k_) ∧ k_ ≠ gb726 ∧ k_ ≠ gb727) (Kd.R_N (Kd.R_bound ho0)) (fun k_ hk_ => ⟨(Nat.le_trans (below_size pB) hk_.2.1), (Kd.freshB (g := gb726) (o := .cells #[.int .u64 a0_0, .int .i64 a0_1, .string a0_2, .slice A0_3 l0_3.length c0_3] 46 (0, 0)) (pK BK726.out) k_ hk_.2.1), (Kd.freshB (g := gb727) (o := .cells #[.int .i64 0, .int .u64 0, .string (⟨#[]⟩ : ByteArray), .slice none 0 0] 26 (0, 0)) (pK BK727.out) k_ hk_.2.1)⟩)) (below_size pB))
 have n1_ := am (pkb BK726.out hb)
 have n2_ := am (pkb BK727.out hb)
 have n3_ := am (below_step pB hb)
 clear BK726 BK727 HB; have HO733 := n0_; have BK726 := n1_; have BK727 := n2_; have HB := n3_; clear n0_ n1_ n2_ n3_; (try clear hb); (try clear hb2); (try clear hk); (try clear hi); (try clear ho0)
 refine hK.out _ _ ⟨cz0 BK726.out, cz1 BK726.out, cz2 BK726.out, cz3 BK726.out⟩ (fun hHeld => ?_)
 clear hK K
 refine norm_ (a' := ?_) ?_ ?_
 rotate_left
 ·show Act.put _ (some 7) _ = _
  exact pA
 refine one_ (i := 6) (N := some 11) (bm 9 127) rfl rfl (one_of HT_.out (by kernel_rfl)) (by decide) (fun K hK => ?_)
 refine goes_ Tryd.func33 (by kernel_rfl) rfl #[.int .u64 (IntKind.u64.wrap (a0_1))] (by rfl) rfl rfl pM ?_
 with_reducible refine (minstrelref07_Number.calls (IntKind.u64.wrap (a0_1)) t734 t735 t736 t737 _ A3.out).mono ?_
 rintro e w9 ⟨v738, rfl, ho0, hb⟩
 refine ⟨_, rfl, ?_⟩
 have n0_ := am (Kd.N_elder' (pN HO733.out) (by first | exact Kd.R_base ho0 | exact Kd.N_base ho0) hb)
 have n1_ := am (Kd.N_lower (Kd.N_mono (ok' := fun k_ => (w.heap.size ≤ k_) ∧ some k_ ≠ (v732 : Value).ownBlock ∧ k_ ≠ gb726 ∧ k_ ≠ gb727) (Kd.R_N (Kd.R_bound ho0)) (fun k_ hk_ => ⟨(Nat.le_trans (below_size pB) hk_.2.1), (Kd.fresh' (Kd.N_lt (pN HO733.out)) k_ hk_.2.1), (Kd.freshB (g := gb726) (o := .cells #[.int .u64 a0_0, .int .i64 a0_1, .string a0_2, .slice A0_3 l0_3.length c0_3] 46 (0, 0)) (pK BK726.out) k_ hk_.2.1), (Kd.freshB (g := gb727) (o := .cells #[.int .i64 0, .int .u64 0, .string (⟨#[]⟩ : ByteArray), .slice none 0 0] 26 (0, 0)) (pK BK727.out) k_ hk_.2.1)⟩)) (below_size pB))
 have n2_ := am (pkb BK726.out hb)
 have n3_ := am (pkb BK727.out hb)
 have n4_ := am (below_step pB hb)
 clear HO733 BK726 BK727 HB; have HO733 := n0_; have HO739 := n1_; have BK726 := n2_; have BK727 := n3_; have HB := n4_; clear n0_ n1_ n2_ n3_ n4_; (try clear hb); (try clear hb2); (try clear hk); (try clear hi); (try clear ho0)
 obtain ⟨Ao10, co10, eo10⟩ := Kd.N_slice HO733.out
 (first | subst eo10 | (injection eo10 with f1_ f2_ f3_; have f4_ := f1_.symm; have f5_ := f3_.symm; clear f1_ f2_ f3_; subst f4_; subst f5_))
 obtain ⟨Ao11, co11, eo11⟩ := Kd.N_slice HO739.out
 (first | subst eo11 | (injection eo11 with f1_ f2_ f3_; have f4_ := f1_.symm; have f5_ := f3_.symm; clear f1_ f2_ f3_; subst f4_; subst f5_))
 refine hK.out _ _ ⟨cz0 BK726.out, cz1 BK726.out, cz2 BK726.out, cz3 BK726.out⟩ (fun hHeld => ?_)
 clear hK K
 refine norm_ (a' := ?_) ?_ ?_
 rotate_left
 ·show Act.put _ (some 11) _ = _
  exact pA
 refine one_ (i := 7) (N := some 12) (bm 9 255) rfl rfl (one_of HT_.out (by kernel_rfl)) (by decide) (fun K hK => ?_)
 refine Kd.N_lit_step k26 _ 26 ?hg (N' := 12) ?hd (xs := ([(⟨t728, t729, t730, t731⟩ : S26), (⟨t734, t735, t736, t737⟩ : S26)] : List (S26))) (inner := [.int .i64 t728, .int .u64 t729, .string t730, .slice Ao10 t731.length co10, .int .i64 t734, .int .u64 t735, .string t736, .slice Ao11 t737.length co11]) (ok := (fun k_ => (w.heap.size ≤ k_) ∧ k_ ≠ gb726 ∧ k_ ≠ gb727)) (okp := (fun k_ => (w.heap.size ≤ k_) ∧ k_ ≠ gb726 ∧ k_ ≠ gb727)) ?hr ?hp (fun _ hk => hk) ((show ∀ k_, w9.heap.size ≤ k_ → (fun k_ => (w.heap.size ≤ k_) ∧ k_ ≠ gb726 ∧ k_ ≠ gb727) k_ from fun k_ hk => ⟨(Nat.le_trans (below_size pB) hk), Kd.freshB (g := gb726) (o := .cells #[.int .u64 a0_0, .int .i64 a0_1, .string a0_2, .slice A0_3 l0_3.length c0_3] 46 (0, 0)) (pK BK726.out) k_ hk, Kd.freshB (g := gb727) (o := .cells #[.int .i64 0, .int .u64 0, .string (⟨#[]⟩ : ByteArray), .slice none 0 0] 26 (0, 0)) (pK BK727.out) k_ hk⟩) _ (Nat.le_refl _)) (Below.refl _ _) (Nat.le_refl _) (by simp) ?_; (case hd => rfl); (case hg => rfl); (case hr => first | (go_simp; done) | (go_simp; rfl)); (case hp => exact (Reps.c4 (show Kd.FK k26 _ _ (⟨t728, t729, t730, t731⟩ : S26) [.int .i64 t728, .int .u64 t729, .string t730, .slice Ao10 t731.length co10] from (k26_mkF _ _ (⟨t728, t729, t730, t731⟩ : S26) (Kd.N_reads' (Kd.N_mono (ok' := (fun k_ => (w.heap.size ≤ k_) ∧ k_ ≠ gb726 ∧ k_ ≠ gb727)) (HO733.out) (fun k_ hk => ⟨hk.1.1, ⟨hk.1.2.1, hk.1.2.2⟩⟩))).2.1 (Kd.N_F (Kd.N_mono (ok' := (fun k_ => (w.heap.size ≤ k_) ∧ k_ ≠ gb726 ∧ k_ ≠ gb727)) (HO733.out) (fun k_ hk => ⟨hk.1.1, ⟨hk.1.2.1, hk.1.2.2⟩⟩))))) (Reps.c4 (show Kd.FK k26 _ _ (⟨t734, t735, t736, t737⟩ : S26) [.int .i64 t734, .int .u64 t735, .string t736, .slice Ao11 t737.length co11] from (k26_mkF _ _ (⟨t734, t735, t736, t737⟩ : S26) (Kd.N_reads' (Kd.N_mono (ok' := (fun k_ => (w.heap.size ≤ k_) ∧ k_ ≠ gb726 ∧ k_ ≠ gb727)) (HO739.out) (fun k_ hk => ⟨hk.1, ⟨hk.2.2.1, hk.2.2.2⟩⟩))).2.1 (Kd.N_F (Kd.N_mono (ok' := (fun k_ => (w.heap.size ≤ k_) ∧ k_ ≠ gb726 ∧ k_ ≠ gb727)) (HO739.out) (fun k_ hk => ⟨hk.1, ⟨hk.2.2.1, hk.2.2.2⟩⟩))))) (Reps.none _ _))))
 intro v741 w12 ho13 hb hg_ hnew_
 clear hg_ hnew_
 (first | rw [← Ny740.out] at ho13 | (simp only [Int.reduceToNat] at ho13; rw [← Ny740.out] at ho13))
 have n0_ := am (Kd.N_lower ho13 (below_size pB))
 have n1_ := am (pkb BK726.out hb)
 have n2_ := am (pkb BK727.out hb)
 have n3_ := am (below_step pB hb)
 clear BK726 BK727 HB HO733 HO739; have HO742 := n0_; have BK726 := n1_; have BK727 := n2_; have HB := n3_; clear n0_ n1_ n2_ n3_ hb ho13
 refine hK.out _ _ ⟨cz0 BK726.out, cz1 BK726.out, cz2 BK726.out, cz3 BK726.out⟩ (fun hHeld => ?_)
 clear hK K
 refine norm_ (a' := ?_) ?_ ?_
 rotate_left
 ·show Act.put _ (some 12) _ = _
  exact pA
 refine pure_ (i := 8) (N := some 4) (v := ?_) (a' := ?_) (bm 9 511) rfl rfl (any_of HT_.out (by kernel_rfl)) (fun _ _ _ h => h) (Or.inl ⟨by kernel_rfl, ?_⟩) ?_ ?_
 rotate_left
 ·intro w'
  go_simp
  with_reducible rfl
 rotate_left
 ·exact pA
 refine done_ (done_of HT_.out (by kernel_rfl)) ?_
 go_upto_region 2 with (fail)
 go_cut [31] (fun v31 wc => ∃ (kq : Nat) (x31_3 : Bool), v31 = .bool x31_3 ∧ Aside0 (minstrelref19_EntryCell.j0 kq y740 x31_3 a0_0 a0_1 a0_2 l0_3 = some (r1, r2, r3, r4, r5)) ∧ Aside0 (kq ≤ k) ∧ Aside0 (Kd.N k26 26 wc w.heap.size (fun k_ => (w.heap.size ≤ k_) ∧ k_ ≠ gb726 ∧ k_ ≠ gb727) v741 y740) ∧ Aside0 (wc.heap[gb726]? = some (.cells #[.int .u64 a0_0, .int .i64 a0_1, .string a0_2, (.slice A0_3 l0_3.length c0_3)] 46 (0, 0))) ∧ Aside0 (wc.heap[gb727]? = some (.cells #[.int .i64 0, .int .u64 0, .string (⟨#[]⟩ : ByteArray), (.slice none 0 0)] 26 (0, 0))) ∧ Aside0 (Below w.heap.size w wc))
 case first =>
  have H := HC4.out
  clear HC4
  by_cases c14 : a0_1 < 0
  ·rw [if_pos c14] at H
   have c14b0 : decide (a0_1 < 0) = true := decide_eq_true c14
   clear c14
   (first | rw [c14b0] | (simp only [i64_w, i32_w]; rw [c14b0]) | rw [c14b1] | (simp only [i64_w, i32_w]; rw [c14b1]) | skip)
   have H' := am H
   clear H
   have hnb15 := NB726_727.out
   have hnc15 := NB727_726.out
   have q16 := cf4 BK726.out
   go_wp2
   go_meet
   case rel => exact ⟨_, (true), (by first | rfl | (simp; done) | (simp [*]; done)), H', ⟨by first | omega | exact Nat.le_refl _⟩, ⟨by (with_reducible repeat (first | apply Kd.N_alloc | apply Kd.N_drewN | apply Kd.N_drew)); exact HO742.out⟩, ⟨by (with_reducible repeat (first | refine blk_drewN ?_ _ | refine blk_drew ?_ | refine blk_alloc ?_ _)); exact BK726.out⟩, ⟨by (with_reducible repeat (first | refine blk_drewN ?_ _ | refine blk_drew ?_ | refine blk_alloc ?_ _)); exact BK727.out⟩, ⟨pB⟩⟩
  ·rw [if_neg c14] at H
   have c14b0 : decide (a0_1 < 0) = false := decide_eq_false c14
   clear c14
   (first | rw [c14b0] | (simp only [i64_w, i32_w]; rw [c14b0]) | rw [c14b1] | (simp only [i64_w, i32_w]; rw [c14b1]) | skip)
   by_cases c17 : a0_1 > 2
   ·rw [if_pos c17] at H
    have c17b0 : decide (2 < a0_1) = true := decide_eq_true c17
    clear c17
    have H' := am H
    clear H
    have hnb18 := NB726_727.out
    have hnc18 := NB727_726.out
    have q19 := cf4 BK726.out
    go_wp2
    go_meet
    case rel => exact ⟨_, (true), (by first | rfl | (simp; done) | (simp [*]; done)), H', ⟨by first | omega | exact Nat.le_refl _⟩, ⟨by (with_reducible repeat (first | apply Kd.N_alloc | apply Kd.N_drewN | apply Kd.N_drew)); exact HO742.out⟩, ⟨by (with_reducible repeat (first | refine blk_drewN ?_ _ | refine blk_drew ?_ | refine blk_alloc ?_ _)); exact BK726.out⟩, ⟨by (with_reducible repeat (first | refine blk_drewN ?_ _ | refine blk_drew ?_ | refine blk_alloc ?_ _)); exact BK727.out⟩, ⟨pB⟩⟩
   ·rw [if_neg c17] at H
    have c17b0 : decide (2 < a0_1) = false := decide_eq_false c17
    clear c17
    by_cases c20 : a0_1 = 2
    ·rw [if_pos c20] at H
     have c20b0 : (a0_1 == 2) = true := beq_iff_eq.mpr c20
     have c20b1 : (a0_1 != 2) = false := bne_eq_false_iff_eq.mpr c20
     clear c20
     replace H := Option.bind_eq_some_iff.mp H
     obtain ⟨t743, A210, H⟩ := H
     try dsimp only at H
     have A21 := am A210
     clear A210
     have H' := am H
     clear H
     have hnb22 := NB726_727.out
     have hnc22 := NB727_726.out
     have q23 := cf4 BK726.out
     go_wp2_with (first | (go_at_call 13; (with_reducible refine (minstrelref19_Members.calls k _ _ l0_3 t743 _ ?side1 ?side2 A21.out).mono ?_); (case side1 => exact pC (Kd.C_below HR0_3.out HB.out)); (case side2 => exact HC0_3.out); rintro e w' ⟨rfl, ⟨nd, rfl⟩⟩))
     go_meet
     case rel => exact ⟨_, (!t743), (by first | rfl | (simp; done) | (simp [*]; done)), H', ⟨by first | omega | exact Nat.le_refl _⟩, ⟨by (with_reducible repeat (first | apply Kd.N_alloc | apply Kd.N_drewN | apply Kd.N_drew)); exact HO742.out⟩, ⟨by (with_reducible repeat (first | refine blk_drewN ?_ _ | refine blk_drew ?_ | refine blk_alloc ?_ _)); exact BK726.out⟩, ⟨by (with_reducible repeat (first | refine blk_drewN ?_ _ | refine blk_drew ?_ | refine blk_alloc ?_ _)); exact BK727.out⟩, ⟨pB⟩⟩
    ·rw [if_neg c20] at H
     have c20b0 : (a0_1 == 2) = false := beq_eq_false_iff_ne.mpr c20
     have c20b1 : (a0_1 != 2) = true := bne_iff_ne.mpr c20
     have H' := am H
     clear H
     have hnb24 := NB726_727.out
     have hnc24 := NB727_726.out
     have q25 := cf4 BK726.out
     go_wp2
     go_meet
     case rel => exact ⟨_, (false), (by first | rfl | (simp; done) | (simp [*]; done)), H', ⟨by first | omega | exact Nat.le_refl _⟩, ⟨by (with_reducible repeat (first | apply Kd.N_alloc | apply Kd.N_drewN | apply Kd.N_drew)); exact HO742.out⟩, ⟨by (with_reducible repeat (first | refine blk_drewN ?_ _ | refine blk_drew ?_ | refine blk_alloc ?_ _)); exact BK726.out⟩, ⟨by (with_reducible repeat (first | refine blk_drewN ?_ _ | refine blk_drew ?_ | refine blk_alloc ?_ _)); exact BK727.out⟩, ⟨pB⟩⟩
 case rest =>
  clear HC4
  try clear c1
  try clear c2
  try clear p2
  try clear c3
  try clear c4
  try clear c14
  try clear c14b0
  try clear c14b1
  try clear c15
  try clear c17
  try clear c17b0
  try clear c18
  try clear c20
  try clear c20b0
  try clear c20b1
  try clear c22
  try clear c24
  try clear q16 q19 q23 q25
  obtain ⟨kq, x31_3, rfl, HA, HJ3, HO_4, BK726, BK727, HB⟩ := hcut
  cases kq with
  | zero => exact absurd HA.out (by simp [minstrelref19_EntryCell.j0])
  | succ kj3 =>
   have H := HA.out
   clear HA
   simp only [minstrelref19_EntryCell.j0] at H
   by_cases c26 : x31_3 = true
   ·subst c26
    rw [if_pos rfl] at H
    simp only [Option.some.injEq, Prod.mk.injEq] at H
    obtain ⟨rfl, rfl, rfl, rfl, rfl⟩ := H
    have hnb27 := NB727_726.out
    have hnc27 := NB726_727.out
    have q28 := cf4 BK727.out
    go_wp2
    refine bodyPost_ret (results_ct rfl _ _ gb727 26 #[.int .i64 0, .int .u64 0, .string (⟨#[]⟩ : ByteArray), .slice none 0 0] (0, 0) _ rfl (by (iterate 4 ((with_reducible repeat (first | refine blk_drewN ?_ _ | refine blk_drew ?_ | refine blk_alloc ?_ _)); refine blk_put (cs := #[.int .i64 0, .int .u64 0, .string (⟨#[]⟩ : ByteArray), .slice none 0 0]) ?_ _ _ rfl)); (with_reducible repeat (first | refine blk_drewN ?_ _ | refine blk_drew ?_ | refine blk_alloc ?_ _)); exact BK727.out) Tryd.underlying26 rfl (by kernel_rfl)) rfl ?_
    exact ⟨_, pE, pZ, pB⟩
   ·replace c26 := Bool.eq_false_iff.mpr c26
    subst c26
    rw [if_neg (show ¬ (false = true) by decide)] at H
    have HC29 := am H
    clear H
    have hnb30 := NB726_727.out
    have hnc30 := NB727_726.out
    have q31 := cf4 BK726.out
    go_upto_if 35 with (fail)
    go_cut [4] (fun v4 wc => ∃ (kq : Nat) (x4_28 : List (S26)) (x728000_28 : Int) (x728001_28 : Int) (x728002_28 : ByteArray), Aside0 (minstrelref19_EntryCell.j1 kq x4_28 a0_0 a0_1 a0_2 l0_3 = some (r1, r2, r3, r4, r5)) ∧ Aside0 (kq ≤ kj3) ∧ Aside0 (Kd.N k26 26 wc w.heap.size (fun k_ => (w.heap.size ≤ k_) ∧ k_ ≠ gb726 ∧ k_ ≠ gb727) v4 x4_28) ∧ Aside0 (wc.heap[gb726]? = some (.cells #[.int .u64 a0_0, .int .i64 a0_1, .string a0_2, (.slice A0_3 l0_3.length c0_3)] 46 (0, 0))) ∧ Aside0 (wc.heap[gb727]? = some (.cells #[.int .i64 x728000_28, .int .u64 x728001_28, .string x728002_28, (.slice none 0 0)] 26 (0, 0))) ∧ Aside0 (Below w.heap.size w wc))
    case first =>
     have H := HC29.out
     clear HC29
     by_cases c32 : a0_1 = 1
     ·rw [if_pos c32] at H
      have c32b0 : (a0_1 == 1) = true := beq_iff_eq.mpr c32
      have c32b1 : (a0_1 != 1) = false := bne_eq_false_iff_eq.mpr c32
      clear c32
      (first | rw [c32b0] | (simp only [i64_w, i32_w]; rw [c32b0]) | rw [c32b1] | (simp only [i64_w, i32_w]; rw [c32b1]) | skip)
      by_cases c33 : (a0_2.size : Int) > 65536
      ·rw [if_pos c33] at H
       have c33b0 : decide (65536 < (a0_2.size : Int)) = true := decide_eq_true c33
       have c33b1 : decide (65536 < a0_2.size) = true := decide_eq_true (by omega)
       clear c33
       simp only [Option.some.injEq, Prod.mk.injEq] at H
       obtain ⟨rfl, rfl, rfl, rfl, rfl⟩ := H
       have hnb34 := NB726_727.out
       have hnc34 := NB727_726.out
       have q35 := cf4 BK726.out
       have q36 := cf4 BK727.out
       go_wp2
       refine bodyPost_ret (results_ct rfl _ _ gb727 26 #[.int .i64 0, .int .u64 0, .string (⟨#[]⟩ : ByteArray), .slice none 0 0] (0, 0) _ rfl (by (iterate 4 ((with_reducible repeat (first | refine blk_drewN ?_ _ | refine blk_drew ?_ | refine blk_alloc ?_ _)); refine blk_put (cs := #[.int .i64 0, .int .u64 0, .string (⟨#[]⟩ : ByteArray), .slice none 0 0]) ?_ _ _ rfl)); (with_reducible repeat (first | refine blk_drewN ?_ _ | refine blk_drew ?_ | refine blk_alloc ?_ _)); exact BK727.out) Tryd.underlying26 rfl (by kernel_rfl)) rfl ?_
       exact ⟨_, pE, pZ, pB⟩
      ·rw [if_neg c33] at H
       have c33b0 : decide (65536 < (a0_2.size : Int)) = false := decide_eq_false c33
       have c33b1 : decide (65536 < a0_2.size) = false := decide_eq_false (by omega)
       clear c33
       replace H := Option.bind_eq_some_iff.mp H
       obtain ⟨⟨t744, t745, t746, t747⟩, A370, H⟩ := H
       try dsimp only at H
       have A37 := am A370
       clear A370
       by_cases c38 : y740.length < 2513169434916
       ·rw [if_pos c38] at H
        have LMc38 := am c38
        clear c38
        obtain ⟨y750, hy750⟩ : ∃ y_ : List (S26), y_ = (y740 ++ [(⟨t744, t745, t746, t747⟩ : S26)]) := ⟨_, rfl⟩
        replace H : (minstrelref19_EntryCell.j1 kj3 y750 a0_0 a0_1 a0_2 l0_3) = some (r1, r2, r3, r4, r5) := by first | (rw [hy750]; with_reducible exact H) | (have H2_ := (Option.bind_some _ _).symm.trans H; rw [hy750]; with_reducible exact H2_) | (have H2_ := (Option.bind_some _ _).symm.trans H; with_reducible exact H2_) | with_reducible exact H | (rw [hy750]; exact H) | exact H
        have Ny750 := am hy750
        clear hy750
        have H' := am H
        clear H
        have hnb39 := NB726_727.out
        have hnc39 := NB727_726.out
        have q40 := cf4 BK726.out
        go_wp2_with (first | ((with_reducible refine gate_callee (f := 44) rfl ?_); refine goesL_ (some 44) rfl rfl Tryd.func44 (by kernel_rfl) rfl #[.string a0_2] rfl pM ?_; (with_reducible refine (minstrelref07_Text.calls a0_2 t744 t745 t746 t747 _ A37.out).mono ?_); rintro e w41 ⟨v748, rfl, ho0, hb⟩; refine ⟨_, rfl, ?_⟩; have HO749 := am (Kd.N_lower (Kd.N_mono (ok' := fun k_ => (w.heap.size ≤ k_) ∧ some k_ ≠ (v741 : Value).ownBlock ∧ k_ ≠ gb726 ∧ k_ ≠ gb727) (Kd.R_N (Kd.R_bound ho0)) (fun k_ hk_ => ⟨(Nat.le_trans (below_size pB) hk_.2.1), (Kd.fresh' (Kd.N_lt (pN HO_4.out)) k_ hk_.2.1), (Kd.freshB (g := gb726) (o := .cells #[.int .u64 a0_0, .int .i64 a0_1, .string a0_2, .slice A0_3 l0_3.length c0_3] 46 (0, 0)) (pK BK726.out) k_ hk_.2.1), (Kd.freshB (g := gb727) (o := .cells #[.int .i64 0, .int .u64 0, .string (⟨#[]⟩ : ByteArray), .slice none 0 0] 26 (0, 0)) (pK BK727.out) k_ hk_.2.1)⟩)) (below_size pB)); replace HO_4 := am (Kd.N_elder' (pN HO_4.out) (by first | exact Kd.R_base ho0 | exact Kd.N_base ho0) hb); replace BK726 := am (pkb BK726.out hb); replace BK727 := am (pkb BK727.out hb); replace HB := am (below_step pB hb); (try clear hb); (try clear hb2); (try clear hk); (try clear hi); (try clear ho0); obtain ⟨Ao43, co43, eo43⟩ := Kd.N_slice HO749.out; subst eo43) | ((with_reducible refine gate_builtin (b := .append) (xs := #[.tmp 41, .tmp 45]) rfl ?_); at_builtin; refine Kd.N_append k26 (w0 := w) w.heap.size rfl (.tmp 41) (.tmp 45) 24 26 (.agg #[(.int .i64 0), (.int .u64 0), (.string ⟨#[]⟩), (.slice none 0 0)]) 56 rfl Tryd.underlying24 info26 rfl (by decide) (by omega) v741 y740 (⟨t744, t745, t746, t747⟩ : S26) [.int .i64 t744, .int .u64 t745, .string t746, .slice Ao43 t747.length co43] (fun k_ => (w.heap.size ≤ k_) ∧ k_ ≠ gb726 ∧ k_ ≠ gb727) (fun k_ => ((fun k_ => (w.heap.size ≤ k_) ∧ k_ ≠ gb726 ∧ k_ ≠ gb727)) k_ ∧ some k_ ≠ (v741 : Value).ownBlock) rfl rfl ?aP (fun _ hk => hk) ?aF ?aO ?aB ?aS ?aL ?_; (case aP => exact (k26_mkF _ _ (⟨t744, t745, t746, t747⟩ : S26) (Kd.N_reads' (Kd.N_mono (ok' := (fun k_ => ((fun k_ => (w.heap.size ≤ k_) ∧ k_ ≠ gb726 ∧ k_ ≠ gb727)) k_ ∧ some k_ ≠ (v741 : Value).ownBlock)) (HO749.out) (fun k_ hk => ⟨⟨hk.1, ⟨hk.2.2.1, hk.2.2.2⟩⟩, hk.2.1⟩))).2.1 (Kd.N_F (Kd.N_mono (ok' := (fun k_ => ((fun k_ => (w.heap.size ≤ k_) ∧ k_ ≠ gb726 ∧ k_ ≠ gb727)) k_ ∧ some k_ ≠ (v741 : Value).ownBlock)) (HO749.out) (fun k_ hk => ⟨⟨hk.1, ⟨hk.2.2.1, hk.2.2.2⟩⟩, hk.2.1⟩))))); (case aB => exact pB); (case aF => exact (fun k_ hk => ⟨(Nat.le_trans (below_size pB) hk), Kd.freshB (g := gb726) (o := .cells #[.int .u64 a0_0, .int .i64 a0_1, .string a0_2, .slice A0_3 l0_3.length c0_3] 46 (0, 0)) (pK BK726.out) k_ hk, Kd.freshB (g := gb727) (o := .cells #[.int .i64 0, .int .u64 0, .string (⟨#[]⟩ : ByteArray), .slice none 0 0] 26 (0, 0)) (pK BK727.out) k_ hk⟩)); (case aO => exact (by (with_reducible repeat (first | apply Kd.N_alloc | apply Kd.N_drewN | apply Kd.N_drew)); exact Kd.N_mono HO_4.out (fun _ hk => ⟨hk.1.1, ⟨hk.1.2.1, hk.1.2.2⟩⟩))); (case aS => exact (below_size pB)); (case aL => have := LMc38.out; omega); intro v751 w42 ho hb hg hat; rw [← Ny750.out] at ho; replace BK726 := am (blk_grown (g := gb726) (o := .cells #[.int .u64 a0_0, .int .i64 a0_1, .string a0_2, .slice A0_3 l0_3.length c0_3] 46 (0, 0)) (pK BK726.out) hg (Kd.N_ne HO_4.out BK726.out (by decide))); replace BK727 := am (blk_grown (g := gb727) (o := .cells #[.int .i64 0, .int .u64 0, .string (⟨#[]⟩ : ByteArray), .slice none 0 0] 26 (0, 0)) (pK BK727.out) hg (Kd.N_away HO_4.out (fun _ hk => hk.1.2.2))); replace HB := am (hb); have HO752 := am (ho); clear HO_4 HO749; clear ho hb hg hat))
        go_meet
        case rel => exact ⟨_, (y750), (0), (0), ((⟨#[]⟩ : ByteArray)), H', ⟨by have := HJ3.out; first | omega | exact Nat.le_refl _⟩, ⟨by (with_reducible repeat (first | apply Kd.N_alloc | apply Kd.N_drewN | apply Kd.N_drew)); exact HO752.out⟩, ⟨by (with_reducible repeat (first | refine blk_drewN ?_ _ | refine blk_drew ?_ | refine blk_alloc ?_ _)); exact BK726.out⟩, ⟨by (with_reducible repeat (first | refine blk_drewN ?_ _ | refine blk_drew ?_ | refine blk_alloc ?_ _)); exact BK727.out⟩, ⟨pB⟩⟩
       ·rw [if_neg c38] at H
        exact absurd H (by simp)
     ·rw [if_neg c32] at H
      have c32b0 : (a0_1 == 1) = false := beq_eq_false_iff_ne.mpr c32
      have c32b1 : (a0_1 != 1) = true := bne_iff_ne.mpr c32
      (first | rw [c32b0] | (simp only [i64_w, i32_w]; rw [c32b0]) | rw [c32b1] | (simp only [i64_w, i32_w]; rw [c32b1]) | skip)
      have H' := am H
      clear H
      go_wp2
      go_meet
      case rel => exact ⟨_, (y740), (0), (0), ((⟨#[]⟩ : ByteArray)), H', ⟨by have := HJ3.out; first | omega | exact Nat.le_refl _⟩, ⟨by (with_reducible repeat (first | apply Kd.N_alloc | apply Kd.N_drewN | apply Kd.N_drew)); exact HO_4.out⟩, ⟨by (with_reducible repeat (first | refine blk_drewN ?_ _ | refine blk_drew ?_ | refine blk_alloc ?_ _)); exact BK726.out⟩, ⟨by (with_reducible repeat (first | refine blk_drewN ?_ _ | refine blk_drew ?_ | refine blk_alloc ?_ _)); exact BK727.out⟩, ⟨pB⟩⟩
    case rest =>
     clear HC29
     try clear c1
     try clear c2
     try clear p2
     try clear c3
     try clear c4
     try clear c14
     try clear c14b0
     try clear c14b1
     try clear c15
     try clear c17
     try clear c17b0
     try clear c18
     try clear c20
     try clear c20b0
     try clear c20b1
     try clear c22
     try clear c24
     try clear c26
     try clear c27
     try clear c30
     try clear c32
     try clear c32b0
     try clear c32b1
     try clear c33
     try clear c33b0
     try clear c33b1
     try clear c34
     try clear c38
     try clear c39
     try clear q16 q19 q23 q25 q28 q31 q35 q36 q40
     try clear p2
     obtain ⟨kq, x4_28, x728000_28, x728001_28, x728002_28, HA, HJ28, HO_4, BK726, BK727, HB⟩ := hcut
     cases kq with
     | zero => exact absurd HA.out (by simp [minstrelref19_EntryCell.j1])
     | succ kj28 =>
      have H := HA.out
      clear HA
      simp only [minstrelref19_EntryCell.j1] at H
      by_cases c44 : a0_1 = 2
      ·rw [if_pos c44] at H
       have c44b0 : (a0_1 == 2) = true := beq_iff_eq.mpr c44
       have c44b1 : (a0_1 != 2) = false := bne_eq_false_iff_eq.mpr c44
       clear c44
       replace H := Option.bind_eq_some_iff.mp H
       obtain ⟨⟨t753, t754, t755, t756⟩, A450, H⟩ := H
       try dsimp only at H
       have A45 := am A450
       clear A450
       by_cases c46 : x4_28.length < 2513169434916
       ·rw [if_pos c46] at H
        have LMc46 := am c46
        clear c46
        obtain ⟨y759, hy759⟩ : ∃ y_ : List (S26), y_ = (x4_28 ++ [(⟨t753, t754, t755, t756⟩ : S26)]) := ⟨_, rfl⟩
        replace H : ((minstrelref07_List.f y759).bind fun bt762 => (some (bt762.1, bt762.2.1, bt762.2.2.1, bt762.2.2.2, 0))) = some (r1, r2, r3, r4, r5) := by first | (rw [hy759]; with_reducible exact H) | (have H2_ := (Option.bind_some _ _).symm.trans H; rw [hy759]; with_reducible exact H2_) | (have H2_ := (Option.bind_some _ _).symm.trans H; with_reducible exact H2_) | with_reducible exact H | (rw [hy759]; exact H) | exact H
        have Ny759 := am hy759
        clear hy759
        replace H := Option.bind_eq_some_iff.mp H
        obtain ⟨⟨t762, t763, t764, t765⟩, A470, H⟩ := H
        try dsimp only at H
        have A47 := am A470
        clear A470
        simp only [Option.some.injEq, Prod.mk.injEq] at H
        obtain ⟨rfl, rfl, rfl, rfl, rfl⟩ := H
        have hnb48 := NB726_727.out
        have hnc48 := NB727_726.out
        have q49 := cf4 BK726.out
        go_wp2_with (first | ((with_reducible refine gate_callee (f := 34) rfl ?_); refine goesL_ (some 53) rfl rfl Tryd.func34 (by kernel_rfl) rfl #[.slice A0_3 l0_3.length c0_3] rfl pM ?_; (with_reducible refine (minstrelref19_members.calls kj28 _ _ l0_3 t753 t754 t755 t756 _ ?side1 ?side2 A45.out).mono ?_); (case side1 => exact pC (Kd.C_below HR0_3.out HB.out)); (case side2 => exact HC0_3.out); rintro e w50 ⟨v757, rfl, ho0, hb⟩; refine ⟨_, rfl, ?_⟩; have HO758 := am (Kd.V_lower (Kd.V_mono (ok' := fun k_ => (w.heap.size ≤ k_) ∧ some k_ ≠ (u4 : Value).ownBlock ∧ k_ ≠ gb726 ∧ k_ ≠ gb727) ho0 (fun k_ hk_ => ⟨(Nat.le_trans (below_size pB) hk_), (Kd.fresh' (Kd.N_lt (pN HO_4.out)) k_ hk_), (Kd.freshB (g := gb726) (o := .cells #[.int .u64 a0_0, .int .i64 a0_1, .string a0_2, .slice A0_3 l0_3.length c0_3] 46 (0, 0)) (pK BK726.out) k_ hk_), (Kd.freshB (g := gb727) (o := .cells #[.int .i64 x728000_28, .int .u64 x728001_28, .string x728002_28, .slice none 0 0] 26 (0, 0)) (pK BK727.out) k_ hk_)⟩)) (below_size pB)); replace HO_4 := am (Kd.N_below (pN HO_4.out) hb); replace BK726 := am (pkb BK726.out hb); replace BK727 := am (pkb BK727.out hb); replace HB := am (below_step pB hb); (try clear hb); (try clear hb2); (try clear hk); (try clear hi); (try clear ho0); obtain ⟨Ao52, co52, eo52⟩ := Kd.V_slice HO758.out; subst eo52) | ((with_reducible refine gate_builtin (b := .append) (xs := #[.tmp 50, .tmp 54]) rfl ?_); at_builtin; refine Kd.N_append k26 (w0 := w) w.heap.size rfl (.tmp 50) (.tmp 54) 24 26 (.agg #[(.int .i64 0), (.int .u64 0), (.string ⟨#[]⟩), (.slice none 0 0)]) 56 rfl Tryd.underlying24 info26 rfl (by decide) (by omega) u4 x4_28 (⟨t753, t754, t755, t756⟩ : S26) [.int .i64 t753, .int .u64 t754, .string t755, .slice Ao52 t756.length co52] (fun k_ => (w.heap.size ≤ k_) ∧ k_ ≠ gb726 ∧ k_ ≠ gb727) (fun k_ => ((fun k_ => (w.heap.size ≤ k_) ∧ k_ ≠ gb726 ∧ k_ ≠ gb727)) k_ ∧ some k_ ≠ (u4 : Value).ownBlock) rfl rfl ?aP (fun _ hk => hk) ?aF ?aO ?aB ?aS ?aL ?_; (case aP => exact (k26_mkF _ _ (⟨t753, t754, t755, t756⟩ : S26) (Kd.V_reads' (Kd.V_mono (ok' := (fun k_ => ((fun k_ => (w.heap.size ≤ k_) ∧ k_ ≠ gb726 ∧ k_ ≠ gb727)) k_ ∧ some k_ ≠ (u4 : Value).ownBlock)) (HO758.out) (fun k_ hk => ⟨⟨hk.1, ⟨hk.2.2.1, hk.2.2.2⟩⟩, hk.2.1⟩))).2.1 (Kd.V_F (Kd.V_mono (ok' := (fun k_ => ((fun k_ => (w.heap.size ≤ k_) ∧ k_ ≠ gb726 ∧ k_ ≠ gb727)) k_ ∧ some k_ ≠ (u4 : Value).ownBlock)) (HO758.out) (fun k_ hk => ⟨⟨hk.1, ⟨hk.2.2.1, hk.2.2.2⟩⟩, hk.2.1⟩))))); (case aB => exact pB); (case aF => exact (fun k_ hk => ⟨(Nat.le_trans (below_size pB) hk), Kd.freshB (g := gb726) (o := .cells #[.int .u64 a0_0, .int .i64 a0_1, .string a0_2, .slice A0_3 l0_3.length c0_3] 46 (0, 0)) (pK BK726.out) k_ hk, Kd.freshB (g := gb727) (o := .cells #[.int .i64 x728000_28, .int .u64 x728001_28, .string x728002_28, .slice none 0 0] 26 (0, 0)) (pK BK727.out) k_ hk⟩)); (case aO => exact (pN HO_4.out)); (case aS => exact (below_size pB)); (case aL => have := LMc46.out; omega); intro v760 w51 ho hb hg hat; rw [← Ny759.out] at ho; replace BK726 := am (blk_grown (g := gb726) (o := .cells #[.int .u64 a0_0, .int .i64 a0_1, .string a0_2, .slice A0_3 l0_3.length c0_3] 46 (0, 0)) (pK BK726.out) hg (Kd.N_ne HO_4.out BK726.out (by decide))); replace BK727 := am (blk_grown (g := gb727) (o := .cells #[.int .i64 x728000_28, .int .u64 x728001_28, .string x728002_28, .slice none 0 0] 26 (0, 0)) (pK BK727.out) hg (Kd.N_away HO_4.out (fun _ hk => hk.2.2))); replace HO758 := am (Kd.V_afterv (ok := (fun k_ => (w.heap.size ≤ k_) ∧ k_ ≠ gb726 ∧ k_ ≠ gb727)) (by (with_reducible repeat (first | apply Kd.V_alloc | apply Kd.V_drewN | apply Kd.V_drew)); exact Kd.V_mono HO758.out (fun _ hk => ⟨⟨hk.1, ⟨hk.2.2.1, hk.2.2.2⟩⟩, hk.2.1⟩)) hg hat); replace HB := am (hb); have HO761 := am (ho); clear HO_4; clear ho hb hg hat; obtain ⟨Ao53, co53, eo53⟩ := Kd.N_slice HO761.out; subst eo53) | ((with_reducible refine gate_callee (f := 32) rfl ?_); refine goesL_ (some 57) rfl rfl Tryd.func32 (by kernel_rfl) rfl #[.slice Ao53 y759.length co53] rfl pM ?_; (with_reducible refine (minstrelref07_List.calls (fun k_ => ((w.heap.size ≤ k_) ∧ (k_ ≠ gb726 ∧ k_ ≠ gb727))) _ _ y759 t762 t763 t764 t765 _ ?side1 A47.out).mono ?_); (case side1 => exact Kd.N_V (HO761.out)); rintro e w54 ⟨v766, rfl, ho0, hb⟩; refine ⟨_, rfl, ?_⟩; replace HO758 := am (Kd.V_below (pV HO758.out) hb); replace HO761 := am (Kd.N_below (pN HO761.out) hb); have HO767 := am (Kd.V_lower (Kd.V_mono (ok' := fun k_ => (w.heap.size ≤ k_) ∧ k_ ≠ gb726 ∧ k_ ≠ gb727) ho0 (fun k_ hk_ => ⟨Or.elim hk_ (fun hs_ => hs_.1) (fun hn_ => (Nat.le_trans (below_size pB) hn_)), Or.elim hk_ (fun hs_ => hs_.2.1) (fun hn_ => (Kd.freshB (g := gb726) (o := .cells #[.int .u64 a0_0, .int .i64 a0_1, .string a0_2, .slice A0_3 l0_3.length c0_3] 46 (0, 0)) (pK BK726.out) k_ hn_)), Or.elim hk_ (fun hs_ => hs_.2.2) (fun hn_ => (Kd.freshB (g := gb727) (o := .cells #[.int .i64 x728000_28, .int .u64 x728001_28, .string x728002_28, .slice none 0 0] 26 (0, 0)) (pK BK727.out) k_ hn_))⟩)) (below_size pB)); replace BK726 := am (pkb BK726.out hb); replace BK727 := am (pkb BK727.out hb); replace HB := am (below_step pB hb); (try clear hb); (try clear hb2); (try clear hk); (try clear hi); (try clear ho0); have q55 := cf4 BK727.out; obtain ⟨Ao56, co56, eo56⟩ := Kd.V_slice HO767.out; subst eo56))
        refine bodyPost_ret (results_ct rfl _ _ gb727 26 #[.int .i64 t762, .int .u64 t763, .string t764, .slice Ao56 t765.length co56] (0, 0) _ rfl (by (with_reducible repeat (first | refine blk_drewN ?_ _ | refine blk_drew ?_ | refine blk_alloc ?_ _)); refine blk_put (cs := #[.int .i64 t762, .int .u64 t763, .string t764, .slice none 0 0]) ?_ 3 _ rfl; (with_reducible repeat (first | refine blk_drewN ?_ _ | refine blk_drew ?_ | refine blk_alloc ?_ _)); refine blk_put (cs := #[.int .i64 t762, .int .u64 t763, .string x728002_28, .slice none 0 0]) ?_ 2 _ rfl; (with_reducible repeat (first | refine blk_drewN ?_ _ | refine blk_drew ?_ | refine blk_alloc ?_ _)); refine blk_put (cs := #[.int .i64 t762, .int .u64 x728001_28, .string x728002_28, .slice none 0 0]) ?_ 1 _ rfl; (with_reducible repeat (first | refine blk_drewN ?_ _ | refine blk_drew ?_ | refine blk_alloc ?_ _)); refine blk_put (cs := #[.int .i64 x728000_28, .int .u64 x728001_28, .string x728002_28, .slice none 0 0]) ?_ 0 _ rfl; (with_reducible repeat (first | refine blk_drewN ?_ _ | refine blk_drew ?_ | refine blk_alloc ?_ _)); exact BK727.out) Tryd.underlying26 rfl (by kernel_rfl)) rfl ?_
        exact ⟨_, pE, by (with_reducible repeat (first | apply Kd.V_alloc | apply Kd.V_drewN | apply Kd.V_drew)); exact Kd.V_mono (Kd.V_far (p := ⟨gb727, 3, none⟩) (Kd.V_far (p := ⟨gb727, 2, none⟩) (Kd.V_far (p := ⟨gb727, 1, none⟩) (Kd.V_far (p := ⟨gb727, 0, none⟩) (Kd.V_mono HO767.out (fun k_ hk => (⟨hk, hk.2.2⟩ : _ ∧ k_ ≠ gb727))) (fun _ hk => hk.2) (.int .i64 t762)) (fun _ hk => hk.2) (.int .u64 t763)) (fun _ hk => hk.2) (.string t764)) (fun _ hk => hk.2) (.slice Ao56 t765.length co56)) (fun _ hk => hk.1.1), pB⟩
       ·rw [if_neg c46] at H
        exact absurd H (by simp)
      ·rw [if_neg c44] at H
       have c44b0 : (a0_1 == 2) = false := beq_eq_false_iff_ne.mpr c44
       have c44b1 : (a0_1 != 2) = true := bne_iff_ne.mpr c44
       replace H := Option.bind_eq_some_iff.mp H
       obtain ⟨⟨t768, t769, t770, t771⟩, A570, H⟩ := H
       try dsimp only at H
       have A57 := am A570
       clear A570
       simp only [Option.some.injEq, Prod.mk.injEq] at H
       obtain ⟨rfl, rfl, rfl, rfl, rfl⟩ := H
       have hnb58 := NB726_727.out
       have hnc58 := NB727_726.out
       have q59 := cf4 BK726.out
       obtain ⟨Ao60, co60, eo60⟩ := Kd.N_slice HO_4.out
       subst eo60
       go_wp2_with (first | ((with_reducible refine gate_callee (f := 32) rfl ?_); refine goesL_ (some 57) rfl rfl Tryd.func32 (by kernel_rfl) rfl #[.slice Ao60 x4_28.length co60] rfl pM ?_; (with_reducible refine (minstrelref07_List.calls (fun k_ => ((w.heap.size ≤ k_) ∧ (k_ ≠ gb726 ∧ k_ ≠ gb727))) _ _ x4_28 t768 t769 t770 t771 _ ?side1 A57.out).mono ?_); (case side1 => exact Kd.N_V (HO_4.out)); rintro e w61 ⟨v772, rfl, ho0, hb⟩; refine ⟨_, rfl, ?_⟩; replace HO_4 := am (Kd.N_below (pN HO_4.out) hb); have HO773 := am (Kd.V_lower (Kd.V_mono (ok' := fun k_ => (w.heap.size ≤ k_) ∧ k_ ≠ gb726 ∧ k_ ≠ gb727) ho0 (fun k_ hk_ => ⟨Or.elim hk_ (fun hs_ => hs_.1) (fun hn_ => (Nat.le_trans (below_size pB) hn_)), Or.elim hk_ (fun hs_ => hs_.2.1) (fun hn_ => (Kd.freshB (g := gb726) (o := .cells #[.int .u64 a0_0, .int .i64 a0_1, .string a0_2, .slice A0_3 l0_3.length c0_3] 46 (0, 0)) (pK BK726.out) k_ hn_)), Or.elim hk_ (fun hs_ => hs_.2.2) (fun hn_ => (Kd.freshB (g := gb727) (o := .cells #[.int .i64 x728000_28, .int .u64 x728001_28, .string x728002_28, .slice none 0 0] 26 (0, 0)) (pK BK727.out) k_ hn_))⟩)) (below_size pB)); replace BK726 := am (pkb BK726.out hb); replace BK727 := am (pkb BK727.out hb); replace HB := am (below_step pB hb); (try clear hb); (try clear hb2); (try clear hk); (try clear hi); (try clear ho0); have q62 := cf4 BK727.out; obtain ⟨Ao63, co63, eo63⟩ := Kd.V_slice HO773.out; subst eo63))
       refine bodyPost_ret (results_ct rfl _ _ gb727 26 #[.int .i64 t768, .int .u64 t769, .string t770, .slice Ao63 t771.length co63] (0, 0) _ rfl (by (with_reducible repeat (first | refine blk_drewN ?_ _ | refine blk_drew ?_ | refine blk_alloc ?_ _)); refine blk_put (cs := #[.int .i64 t768, .int .u64 t769, .string t770, .slice none 0 0]) ?_ 3 _ rfl; (with_reducible repeat (first | refine blk_drewN ?_ _ | refine blk_drew ?_ | refine blk_alloc ?_ _)); refine blk_put (cs := #[.int .i64 t768, .int .u64 t769, .string x728002_28, .slice none 0 0]) ?_ 2 _ rfl; (with_reducible repeat (first | refine blk_drewN ?_ _ | refine blk_drew ?_ | refine blk_alloc ?_ _)); refine blk_put (cs := #[.int .i64 t768, .int .u64 x728001_28, .string x728002_28, .slice none 0 0]) ?_ 1 _ rfl; (with_reducible repeat (first | refine blk_drewN ?_ _ | refine blk_drew ?_ | refine blk_alloc ?_ _)); refine blk_put (cs := #[.int .i64 x728000_28, .int .u64 x728001_28, .string x728002_28, .slice none 0 0]) ?_ 0 _ rfl; (with_reducible repeat (first | refine blk_drewN ?_ _ | refine blk_drew ?_ | refine blk_alloc ?_ _)); exact BK727.out) Tryd.underlying26 rfl (by kernel_rfl)) rfl ?_
       exact ⟨_, pE, by (with_reducible repeat (first | apply Kd.V_alloc | apply Kd.V_drewN | apply Kd.V_drew)); exact Kd.V_mono (Kd.V_far (p := ⟨gb727, 3, none⟩) (Kd.V_far (p := ⟨gb727, 2, none⟩) (Kd.V_far (p := ⟨gb727, 1, none⟩) (Kd.V_far (p := ⟨gb727, 0, none⟩) (Kd.V_mono HO773.out (fun k_ hk => (⟨hk, hk.2.2⟩ : _ ∧ k_ ≠ gb727))) (fun _ hk => hk.2) (.int .i64 t768)) (fun _ hk => hk.2) (.int .u64 t769)) (fun _ hk => hk.2) (.string t770)) (fun _ hk => hk.2) (.slice Ao63 t771.length co63)) (fun _ hk => hk.1.1), pB⟩
end Go.Proofs.YtlkaffbgekbcfaaDoor.Pr
end
