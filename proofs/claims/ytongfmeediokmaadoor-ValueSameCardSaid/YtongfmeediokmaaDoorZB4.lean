/- A part of the proof of the law that RowValueSame shows: lemmas, and contracts of the calls that it reaches. -/
import Derived.Test.YtongfmeediokmaaDoorProg
import Derived.Below
import Derived.Deep.Draws
import Derived.Deep.AppendLies
import Derived.Maps.AppendAt
import Derived.OwnWalk
import Derived.Laws.BytesArg
import Derived.Laws.MakeOwn
import Derived.Laws.OwnMore
import Derived.Deep.OwnRows
import Derived.Tactics
import Derived.Lib.ConvBytes
import Derived.Laws.Slices
import Derived.WalkKit
import Derived.KernelRfl
import Derived.RowKit3
import Derived.Deep.LoopGhost
import Derived.Deep.QuietTactic
import Derived.BigQuiet
import Derived.WideLaws
import Derived.Deep.DeepCutAuto
import Derived.Deep.CutBlock
import Derived.Deep.RegionHeld3
import Derived.Laws.Rows
import Derived.Lib.AppendStr
import Derived.ArgAppend
import Derived.Laws.IdiomCopy
import Derived.OrdersHeld
import Derived.Laws.BitsLemmas
import Derived.RowKit
import Derived.Test.YtongfmeediokmaaDoorZB0
import Derived.Test.YtongfmeediokmaaDoorZB1
import Derived.Test.YtongfmeediokmaaDoorZB3
import Derived.Lib.SliceRun
import Derived.Lib.LaidTab
import Derived.OpenShut
import Derived.ChangeArms
set_option linter.unusedVariables false
set_option linter.unusedSimpArgs false
section
namespace Go.Proofs.YtongfmeediokmaaDoor.Pr
open Go.RowKit Go.Proofs.YtongfmeediokmaaDoorW.PrintWords Go.Proofs.YtongfmeediokmaaDoorW.PrintLast Go.Proofs.YtongfmeediokmaaDoorW.PrintMore
attribute [local go_sem] max2_int min2_int max_two min_two max_three min_three max_four min_four
def minstrelref08_Same.f (k : Nat) (a0_0 : Int) (a0_1 : Int) (a0_2 : ByteArray) (a0_3 : Int) (a1_0 : Int) (a1_1 : Int) (a1_2 : ByteArray) (a1_3 : Int) : Option (Bool) := (minstrelref08_Normal.f k a0_0 a0_1 a0_2 a0_3).bind fun bt296 => ((minstrelref08_Normal.f k a1_0 a1_1 a1_2 a1_3).bind fun bt300 => (if bt296.1 = bt300.1 then (if bt296.1 = 3 then ((minstrelref01_Equal.f k bt296.2.1 bt300.2.1).bind fun t304 => (some t304)) else (if bt296.2.2.1.toList = bt300.2.2.1.toList then (some (bt296.2.2.2 == bt300.2.2.2)) else (some false))) else (some false)))
set_option maxHeartbeats 8000000 in
set_option maxRecDepth 100000 in
theorem minstrelref08_Same.calls (k : Nat) (a0_0 : Int) (a0_1 : Int) (a0_2 : ByteArray) (a0_3 : Int) (a1_0 : Int) (a1_1 : Int) (a1_2 : ByteArray) (a1_3 : Int) (r : Bool) (w : World) (h : minstrelref08_Same.f k a0_0 a0_1 a0_2 a0_3 a1_0 a1_1 a1_2 a1_3 = some r) :
    Calls Tryd.prog 8 #[.agg #[.int .i64 a0_0, .int .u64 a0_1, .string a0_2, .int .i64 a0_3], .agg #[.int .i64 a1_0, .int .u64 a1_1, .string a1_2, .int .i64 a1_3]] w fun e w' => e = .returned (.bool r) ∧ Below w.heap.size w w' := by
  have hu25 := Tryd.underlying25
  have HB := Aside0.mk (Below.refl w.heap.size w)
  have H : ((minstrelref08_Normal.f k a0_0 a0_1 a0_2 a0_3).bind fun bt296 => ((minstrelref08_Normal.f k a1_0 a1_1 a1_2 a1_3).bind fun bt300 => (if bt296.1 = bt300.1 then (if bt296.1 = 3 then ((minstrelref01_Equal.f k bt296.2.1 bt300.2.1).bind fun t304 => (some t304)) else (if bt296.2.2.1.toList = bt300.2.2.1.toList then (some (bt296.2.2.2 == bt300.2.2.2)) else (some false))) else (some false)))) = some r := h
  clear h
  replace H := Option.bind_eq_some_iff.mp H
  obtain ⟨⟨t296, t297, t298, t299⟩, A30, H⟩ := H
  replace H : ((minstrelref08_Normal.f k a1_0 a1_1 a1_2 a1_3).bind fun bt300 => (if t296 = bt300.1 then (if t296 = 3 then ((minstrelref01_Equal.f k t297 bt300.2.1).bind fun t304 => (some t304)) else (if t298.toList = bt300.2.2.1.toList then (some (t299 == bt300.2.2.2)) else (some false))) else (some false))) = some r := H
  have A3 := Aside0.mk A30
  clear A30
  replace H := Option.bind_eq_some_iff.mp H
  obtain ⟨⟨t300, t301, t302, t303⟩, A40, H⟩ := H
  replace H : (if t296 = t300 then (if t296 = 3 then ((minstrelref01_Equal.f k t297 t301).bind fun t304 => (some t304)) else (if t298.toList = t302.toList then (some (t299 == t303)) else (some false))) else (some false)) = some r := H
  have A4 := Aside0.mk A40
  clear A40
  by_cases c5 : t296 = t300
  · rw [if_pos c5] at H
    have c5b0 : (t296 == t300) = true := beq_iff_eq.mpr c5
    have c5b1 : (t296 != t300) = false := bne_eq_false_iff_eq.mpr c5
    clear c5
    by_cases c6 : t296 = 3
    · rw [if_pos c6] at H
      have c6b0 : (t296 == 3) = true := beq_iff_eq.mpr c6
      have c6b1 : (t296 != 3) = false := bne_eq_false_iff_eq.mpr c6
      clear c6
      replace H := Option.bind_eq_some_iff.mp H
      obtain ⟨t304, A70, H⟩ := H
      replace H : (some t304) = some r := H
      have A7 := Aside0.mk A70
      clear A70
      obtain rfl := Option.some.inj H
      go_enter Tryd.func8, Tryd.ntmps8
      try go_wp2_with (first | ((with_reducible refine gate_dst (N := 2) rfl ?_); refine box_event ?hg (N := 2) ?hd (cs := #[.int .i64 a0_0, .int .u64 a0_1, .string a0_2, .int .i64 a0_3]) (t := 25) ?hr ?_; (case hd => rfl); (case hg => rfl); (case hr => first | (go_simp; done) | (go_simp; rfl)); intro gb294 hg w8 hbox hb; have n0_ := Aside0.mk (below_step (by repeat (first | (with_reducible first | exact HB.out | apply below_alloc | apply pw_below_drewN | apply below_drew1) | exact HB.out)) hb); have n1_ := Aside0.mk (hbox); have n2_ := Aside0.mk ((by rw [hg]; exact (below_size (by repeat (first | (with_reducible first | exact HB.out | apply below_alloc | apply pw_below_drewN | apply below_drew1) | exact HB.out))) : w.heap.size ≤ gb294)); have n3_ := Aside0.mk ((by rw [hg]; exact (below_size (by repeat (first | (with_reducible first | exact HB.out | apply below_alloc | apply pw_below_drewN | apply below_drew1) | exact HB.out))) : w.heap.size ≤ gb294)); clear HB; have HB := n0_; have BK294 := n1_; have GW294 := n2_; have GE294 := n3_; clear n0_ n1_ n2_ n3_; clear hb hbox hg) | ((with_reducible refine gate_dst (N := 3) rfl ?_); refine box_event ?hg (N := 3) ?hd (cs := #[.int .i64 a1_0, .int .u64 a1_1, .string a1_2, .int .i64 a1_3]) (t := 25) ?hr ?_; (case hd => rfl); (case hg => rfl); (case hr => first | (go_simp; done) | (go_simp; rfl)); intro gb295 hg w9 hbox hb; have n0_ := Aside0.mk (blk_below (g := gb294) (o := .cells #[.int .i64 a0_0, .int .u64 a0_1, .string a0_2, .int .i64 a0_3] 25 (0, 0)) (by (with_reducible repeat (first | refine blk_drewN ?_ _ | refine blk_drew ?_ | refine blk_alloc ?_ _)); exact BK294.out) hb); have n1_ := Aside0.mk (below_step (by repeat (first | (with_reducible first | exact HB.out | apply below_alloc | apply pw_below_drewN | apply below_drew1 | refine below_set ?_ GE294.out) | exact HB.out)) hb); have n2_ := Aside0.mk (hbox); have n3_ := Aside0.mk ((by rw [hg]; exact (below_size (by repeat (first | (with_reducible first | exact HB.out | apply below_alloc | apply pw_below_drewN | apply below_drew1 | refine below_set ?_ GE294.out) | exact HB.out))) : w.heap.size ≤ gb295)); have n4_ := Aside0.mk ((by rw [hg]; exact (below_size (by repeat (first | (with_reducible first | exact HB.out | apply below_alloc | apply pw_below_drewN | apply below_drew1 | refine below_set ?_ GE294.out) | exact HB.out))) : w.heap.size ≤ gb295)); have n5_ := Aside0.mk ((by rw [hg]; exact Nat.ne_of_lt (blk_lt (g := gb294) (o := .cells #[.int .i64 a0_0, .int .u64 a0_1, .string a0_2, .int .i64 a0_3] 25 (0, 0)) (by (with_reducible repeat (first | refine blk_drewN ?_ _ | refine blk_drew ?_ | refine blk_alloc ?_ _)); exact BK294.out)) : gb294 ≠ gb295)); have n6_ := Aside0.mk ((by rw [hg]; exact Nat.ne_of_gt (blk_lt (g := gb294) (o := .cells #[.int .i64 a0_0, .int .u64 a0_1, .string a0_2, .int .i64 a0_3] 25 (0, 0)) (by (with_reducible repeat (first | refine blk_drewN ?_ _ | refine blk_drew ?_ | refine blk_alloc ?_ _)); exact BK294.out)) : gb295 ≠ gb294)); clear BK294; clear HB; have BK294 := n0_; have HB := n1_; have BK295 := n2_; have GW295 := n3_; have GE295 := n4_; have NB294_295 := n5_; have NB295_294 := n6_; clear n0_ n1_ n2_ n3_ n4_ n5_ n6_; clear hb hbox hg))
      have n0_ := Aside0.mk (blk_drew BK294.out)
      have n1_ := Aside0.mk (blk_drew BK295.out)
      have n2_ := Aside0.mk (below_drew1 HB.out)
      clear BK294
      clear BK295
      clear HB
      have BK294 := n0_
      have BK295 := n1_
      have HB := n2_
      clear n0_ n1_ n2_
      refine start_ (n := 6) (S := fun w' => w'.cell? ⟨gb294, 0, none⟩ = some (.int .i64 a0_0) ∧ w'.cell? ⟨gb294, 1, none⟩ = some (.int .u64 a0_1) ∧ w'.cell? ⟨gb294, 2, none⟩ = some (.string a0_2) ∧ w'.cell? ⟨gb294, 3, none⟩ = some (.int .i64 a0_3) ∧ w'.cell? ⟨gb295, 0, none⟩ = some (.int .i64 a1_0) ∧ w'.cell? ⟨gb295, 1, none⟩ = some (.int .u64 a1_1) ∧ w'.cell? ⟨gb295, 2, none⟩ = some (.string a1_2) ∧ w'.cell? ⟨gb295, 3, none⟩ = some (.int .i64 a1_3)) (ds := [4, 5]) #[false, false, false, false, false, false] (by kernel_rfl) rfl rfl ⟨(blk_cell BK294.out 0).trans rfl, (blk_cell BK294.out 1).trans rfl, (blk_cell BK294.out 2).trans rfl, (blk_cell BK294.out 3).trans rfl, (blk_cell BK295.out 0).trans rfl, (blk_cell BK295.out 1).trans rfl, (blk_cell BK295.out 2).trans rfl, (blk_cell BK295.out 3).trans rfl⟩ (fun hHeld => ?_)
      generalize w9.drew = w10 at BK294 BK295 HB hHeld ⊢
      refine take_ (i := 0) (N := some 5) (v := ?_) (a' := ?_) #[true, false, false, false, false, false] rfl rfl (by kernel_rfl) (fun _ _ _ h => h) (Or.inl ⟨by rfl, ?_⟩) hHeld ?_ ?_
      rotate_left
      · rintro w' ⟨s0, s1, s2, s3, s4, s5, s6, s7⟩
        go_simp
        with_reducible rfl
      rotate_left
      · simp only [Act.put, List.setIfInBounds_toArray, List.set_cons_zero, List.set_cons_succ, i64_w, i32_w]
        rfl
      refine take_ (i := 2) (N := some 7) (v := ?_) (a' := ?_) #[true, false, true, false, false, false] rfl rfl (by kernel_rfl) (fun _ _ _ h => h) (Or.inl ⟨by rfl, ?_⟩) hHeld ?_ ?_
      rotate_left
      · rintro w' ⟨s0, s1, s2, s3, s4, s5, s6, s7⟩
        go_simp
        with_reducible rfl
      rotate_left
      · simp only [Act.put, List.setIfInBounds_toArray, List.set_cons_zero, List.set_cons_succ, i64_w, i32_w]
        rfl
      refine one_ (i := 1) (N := some 6) #[true, true, true, false, false, false] rfl rfl (by kernel_rfl) (by decide) (fun K hK => ?_)
      refine goes_ Tryd.func10 (by kernel_rfl) rfl #[.agg #[.int .i64 a0_0, .int .u64 a0_1, .string a0_2, .int .i64 a0_3]] (by rfl) rfl rfl (by (try simp only [List.map_toArray, List.map_cons, List.map_nil]); first | done | rfl | (simp only [List.length_drop, List.length_take]; rfl)) ?_
      with_reducible refine (minstrelref08_Normal.calls k a0_0 a0_1 a0_2 a0_3 t296 t297 t298 t299 _ A3.out).mono ?_
      rintro e w11 ⟨rfl, hb⟩
      refine ⟨_, rfl, ?_⟩
      have n0_ := Aside0.mk (blk_below (g := gb294) (o := .cells #[.int .i64 a0_0, .int .u64 a0_1, .string a0_2, .int .i64 a0_3] 25 (0, 0)) (by (with_reducible repeat (first | refine blk_drewN ?_ _ | refine blk_drew ?_ | refine blk_alloc ?_ _)); exact BK294.out) hb)
      have n1_ := Aside0.mk (blk_below (g := gb295) (o := .cells #[.int .i64 a1_0, .int .u64 a1_1, .string a1_2, .int .i64 a1_3] 25 (0, 0)) (by (with_reducible repeat (first | refine blk_drewN ?_ _ | refine blk_drew ?_ | refine blk_alloc ?_ _)); exact BK295.out) hb)
      have n2_ := Aside0.mk (below_step (by repeat (first | (with_reducible first | exact HB.out | apply below_alloc | apply pw_below_drewN | apply below_drew1 | refine below_set ?_ GE294.out | refine below_set ?_ GE295.out) | exact HB.out)) hb)
      clear BK294
      clear BK295
      clear HB
      have BK294 := n0_
      have BK295 := n1_
      have HB := n2_
      clear n0_ n1_ n2_
      (try clear hb)
      (try clear hb2)
      (try clear hk)
      (try clear hi)
      refine hK.out _ _ ⟨(blk_cell BK294.out 0).trans rfl, (blk_cell BK294.out 1).trans rfl, (blk_cell BK294.out 2).trans rfl, (blk_cell BK294.out 3).trans rfl, (blk_cell BK295.out 0).trans rfl, (blk_cell BK295.out 1).trans rfl, (blk_cell BK295.out 2).trans rfl, (blk_cell BK295.out 3).trans rfl⟩ (fun hHeld => ?_)
      clear hK K
      refine norm_ (a' := ?_) ?_ ?_
      rotate_left
      · show Act.put _ (some 6) _ = _
        simp only [Act.put, List.setIfInBounds_toArray, List.set_cons_zero, List.set_cons_succ, i64_w, i32_w]
        rfl
      refine one_ (i := 3) (N := some 8) #[true, true, true, true, false, false] rfl rfl (by kernel_rfl) (by decide) (fun K hK => ?_)
      refine goes_ Tryd.func10 (by kernel_rfl) rfl #[.agg #[.int .i64 a1_0, .int .u64 a1_1, .string a1_2, .int .i64 a1_3]] (by rfl) rfl rfl (by (try simp only [List.map_toArray, List.map_cons, List.map_nil]); first | done | rfl | (simp only [List.length_drop, List.length_take]; rfl)) ?_
      with_reducible refine (minstrelref08_Normal.calls k a1_0 a1_1 a1_2 a1_3 t300 t301 t302 t303 _ A4.out).mono ?_
      rintro e w12 ⟨rfl, hb⟩
      refine ⟨_, rfl, ?_⟩
      have n0_ := Aside0.mk (blk_below (g := gb294) (o := .cells #[.int .i64 a0_0, .int .u64 a0_1, .string a0_2, .int .i64 a0_3] 25 (0, 0)) (by (with_reducible repeat (first | refine blk_drewN ?_ _ | refine blk_drew ?_ | refine blk_alloc ?_ _)); exact BK294.out) hb)
      have n1_ := Aside0.mk (blk_below (g := gb295) (o := .cells #[.int .i64 a1_0, .int .u64 a1_1, .string a1_2, .int .i64 a1_3] 25 (0, 0)) (by (with_reducible repeat (first | refine blk_drewN ?_ _ | refine blk_drew ?_ | refine blk_alloc ?_ _)); exact BK295.out) hb)
      have n2_ := Aside0.mk (below_step (by repeat (first | (with_reducible first | exact HB.out | apply below_alloc | apply pw_below_drewN | apply below_drew1 | refine below_set ?_ GE294.out | refine below_set ?_ GE295.out) | exact HB.out)) hb)
      clear BK294
      clear BK295
      clear HB
      have BK294 := n0_
      have BK295 := n1_
      have HB := n2_
      clear n0_ n1_ n2_
      (try clear hb)
      (try clear hb2)
      (try clear hk)
      (try clear hi)
      refine hK.out _ _ ⟨(blk_cell BK294.out 0).trans rfl, (blk_cell BK294.out 1).trans rfl, (blk_cell BK294.out 2).trans rfl, (blk_cell BK294.out 3).trans rfl, (blk_cell BK295.out 0).trans rfl, (blk_cell BK295.out 1).trans rfl, (blk_cell BK295.out 2).trans rfl, (blk_cell BK295.out 3).trans rfl⟩ (fun hHeld => ?_)
      clear hK K
      refine norm_ (a' := ?_) ?_ ?_
      rotate_left
      · show Act.put _ (some 8) _ = _
        simp only [Act.put, List.setIfInBounds_toArray, List.set_cons_zero, List.set_cons_succ, i64_w, i32_w]
        rfl
      refine last_ (i := 4) (N := none) #[true, true, true, true, true, false] rfl rfl (by kernel_rfl) (by decide) (fun K hK => ?_)
      have hs13 : w12.cell? ⟨gb294, 0, none⟩ = some (.int .i64 a0_0) := (blk_cell BK294.out 0).trans rfl
      have hfs13 := blk_frozen BK294.out 0
      have hns13_1 := NB295_294.out
      have hms13_1 := NB294_295.out
      have hs14 : w12.cell? ⟨gb294, 1, none⟩ = some (.int .u64 a0_1) := (blk_cell BK294.out 1).trans rfl
      have hfs14 := blk_frozen BK294.out 1
      have hns14_1 := NB295_294.out
      have hms14_1 := NB294_295.out
      have hs15 : w12.cell? ⟨gb294, 2, none⟩ = some (.string a0_2) := (blk_cell BK294.out 2).trans rfl
      have hfs15 := blk_frozen BK294.out 2
      have hns15_1 := NB295_294.out
      have hms15_1 := NB294_295.out
      have hs16 : w12.cell? ⟨gb294, 3, none⟩ = some (.int .i64 a0_3) := (blk_cell BK294.out 3).trans rfl
      have hfs16 := blk_frozen BK294.out 3
      have hns16_1 := NB295_294.out
      have hms16_1 := NB294_295.out
      refine skip_ (w1 := ?_) (by rfl) rfl ?_ ?_
      rotate_left
      · go_simp
        rfl
      refine hK.out _ _ ?_
      clear hK K
      refine last_ (i := 5) (N := none) #[true, true, true, true, true, true] rfl rfl (by kernel_rfl) (by decide) (fun K hK => ?_)
      have hs17 : w12.cell? ⟨gb295, 0, none⟩ = some (.int .i64 a1_0) := (blk_cell BK295.out 0).trans rfl
      have hfs17 := blk_frozen BK295.out 0
      have hns17_0 := NB294_295.out
      have hms17_0 := NB295_294.out
      have hs18 : w12.cell? ⟨gb295, 1, none⟩ = some (.int .u64 a1_1) := (blk_cell BK295.out 1).trans rfl
      have hfs18 := blk_frozen BK295.out 1
      have hns18_0 := NB294_295.out
      have hms18_0 := NB295_294.out
      have hs19 : w12.cell? ⟨gb295, 2, none⟩ = some (.string a1_2) := (blk_cell BK295.out 2).trans rfl
      have hfs19 := blk_frozen BK295.out 2
      have hns19_0 := NB294_295.out
      have hms19_0 := NB295_294.out
      have hs20 : w12.cell? ⟨gb295, 3, none⟩ = some (.int .i64 a1_3) := (blk_cell BK295.out 3).trans rfl
      have hfs20 := blk_frozen BK295.out 3
      have hns20_0 := NB294_295.out
      have hms20_0 := NB295_294.out
      refine skip_ (w1 := ?_) (by rfl) rfl ?_ ?_
      rotate_left
      · go_simp
        rfl
      refine hK.out _ _ ?_
      clear hK K
      refine done_ (by kernel_rfl) ?_
      have hnb21 := NB294_295.out
      have hnc21 := NB295_294.out
      have hcz22_0 : w12.cell? ⟨gb294, 0, none⟩ = some (.int .i64 a0_0) := (blk_cell BK294.out 0).trans rfl
      have hcz22_1 : w12.cell? ⟨gb294, 1, none⟩ = some (.int .u64 a0_1) := (blk_cell BK294.out 1).trans rfl
      have hcz22_2 : w12.cell? ⟨gb294, 2, none⟩ = some (.string a0_2) := (blk_cell BK294.out 2).trans rfl
      have hcz22_3 : w12.cell? ⟨gb294, 3, none⟩ = some (.int .i64 a0_3) := (blk_cell BK294.out 3).trans rfl
      have hfz22_0 := blk_frozen BK294.out 0
      have hfz22_1 := blk_frozen BK294.out 1
      have hfz22_2 := blk_frozen BK294.out 2
      have hfz22_3 := blk_frozen BK294.out 3
      have hcz23_0 : w12.cell? ⟨gb295, 0, none⟩ = some (.int .i64 a1_0) := (blk_cell BK295.out 0).trans rfl
      have hcz23_1 : w12.cell? ⟨gb295, 1, none⟩ = some (.int .u64 a1_1) := (blk_cell BK295.out 1).trans rfl
      have hcz23_2 : w12.cell? ⟨gb295, 2, none⟩ = some (.string a1_2) := (blk_cell BK295.out 2).trans rfl
      have hcz23_3 : w12.cell? ⟨gb295, 3, none⟩ = some (.int .i64 a1_3) := (blk_cell BK295.out 3).trans rfl
      have hfz23_0 := blk_frozen BK295.out 0
      have hfz23_1 := blk_frozen BK295.out 1
      have hfz23_2 := blk_frozen BK295.out 2
      have hfz23_3 := blk_frozen BK295.out 3
      try go_wp2_with (first | ((with_reducible refine gate_callee (f := 20) rfl ?_); refine goesL_ (some 21) rfl rfl Tryd.func20 (by kernel_rfl) rfl #[.int .u64 t297, .int .u64 t301] rfl (by (try simp only [List.map_toArray, List.map_cons, List.map_nil]); first | done | rfl | (simp only [List.length_drop, List.length_take]; rfl)) ?_; (with_reducible refine (minstrelref01_Equal.calls k t297 t301 t304 _ A7.out).mono ?_); rintro e w' ⟨rfl, ⟨nd, rfl⟩⟩; refine ⟨_, rfl, ?_⟩))
      go_ret
      exact ⟨by first | rfl | (simp [errW_none, errW_some] <;> rfl) | (simp [*, errW_none, errW_some] <;> rfl), by repeat (first | (with_reducible first | exact HB.out | apply below_alloc | apply pw_below_drewN | apply below_drew1 | refine below_set ?_ GE294.out | refine below_set ?_ GE295.out) | exact HB.out)⟩
    · rw [if_neg c6] at H
      have c6b0 : (t296 == 3) = false := beq_eq_false_iff_ne.mpr c6
      have c6b1 : (t296 != 3) = true := bne_iff_ne.mpr c6
      by_cases c24 : t298.toList = t302.toList
      · rw [if_pos c24] at H
        have c24b0 : (t298.toList == t302.toList) = true := beq_iff_eq.mpr c24
        have c24b1 : (t298.toList != t302.toList) = false := bne_eq_false_iff_eq.mpr c24
        clear c24
        obtain rfl := Option.some.inj H
        go_enter Tryd.func8, Tryd.ntmps8
        try go_wp2_with (first | ((with_reducible refine gate_dst (N := 2) rfl ?_); refine box_event ?hg (N := 2) ?hd (cs := #[.int .i64 a0_0, .int .u64 a0_1, .string a0_2, .int .i64 a0_3]) (t := 25) ?hr ?_; (case hd => rfl); (case hg => rfl); (case hr => first | (go_simp; done) | (go_simp; rfl)); intro gb294 hg w25 hbox hb; have n0_ := Aside0.mk (below_step (by repeat (first | (with_reducible first | exact HB.out | apply below_alloc | apply pw_below_drewN | apply below_drew1) | exact HB.out)) hb); have n1_ := Aside0.mk (hbox); have n2_ := Aside0.mk ((by rw [hg]; exact (below_size (by repeat (first | (with_reducible first | exact HB.out | apply below_alloc | apply pw_below_drewN | apply below_drew1) | exact HB.out))) : w.heap.size ≤ gb294)); have n3_ := Aside0.mk ((by rw [hg]; exact (below_size (by repeat (first | (with_reducible first | exact HB.out | apply below_alloc | apply pw_below_drewN | apply below_drew1) | exact HB.out))) : w.heap.size ≤ gb294)); clear HB; have HB := n0_; have BK294 := n1_; have GW294 := n2_; have GE294 := n3_; clear n0_ n1_ n2_ n3_; clear hb hbox hg) | ((with_reducible refine gate_dst (N := 3) rfl ?_); refine box_event ?hg (N := 3) ?hd (cs := #[.int .i64 a1_0, .int .u64 a1_1, .string a1_2, .int .i64 a1_3]) (t := 25) ?hr ?_; (case hd => rfl); (case hg => rfl); (case hr => first | (go_simp; done) | (go_simp; rfl)); intro gb295 hg w26 hbox hb; have n0_ := Aside0.mk (blk_below (g := gb294) (o := .cells #[.int .i64 a0_0, .int .u64 a0_1, .string a0_2, .int .i64 a0_3] 25 (0, 0)) (by (with_reducible repeat (first | refine blk_drewN ?_ _ | refine blk_drew ?_ | refine blk_alloc ?_ _)); exact BK294.out) hb); have n1_ := Aside0.mk (below_step (by repeat (first | (with_reducible first | exact HB.out | apply below_alloc | apply pw_below_drewN | apply below_drew1 | refine below_set ?_ GE294.out) | exact HB.out)) hb); have n2_ := Aside0.mk (hbox); have n3_ := Aside0.mk ((by rw [hg]; exact (below_size (by repeat (first | (with_reducible first | exact HB.out | apply below_alloc | apply pw_below_drewN | apply below_drew1 | refine below_set ?_ GE294.out) | exact HB.out))) : w.heap.size ≤ gb295)); have n4_ := Aside0.mk ((by rw [hg]; exact (below_size (by repeat (first | (with_reducible first | exact HB.out | apply below_alloc | apply pw_below_drewN | apply below_drew1 | refine below_set ?_ GE294.out) | exact HB.out))) : w.heap.size ≤ gb295)); have n5_ := Aside0.mk ((by rw [hg]; exact Nat.ne_of_lt (blk_lt (g := gb294) (o := .cells #[.int .i64 a0_0, .int .u64 a0_1, .string a0_2, .int .i64 a0_3] 25 (0, 0)) (by (with_reducible repeat (first | refine blk_drewN ?_ _ | refine blk_drew ?_ | refine blk_alloc ?_ _)); exact BK294.out)) : gb294 ≠ gb295)); have n6_ := Aside0.mk ((by rw [hg]; exact Nat.ne_of_gt (blk_lt (g := gb294) (o := .cells #[.int .i64 a0_0, .int .u64 a0_1, .string a0_2, .int .i64 a0_3] 25 (0, 0)) (by (with_reducible repeat (first | refine blk_drewN ?_ _ | refine blk_drew ?_ | refine blk_alloc ?_ _)); exact BK294.out)) : gb295 ≠ gb294)); clear BK294; clear HB; have BK294 := n0_; have HB := n1_; have BK295 := n2_; have GW295 := n3_; have GE295 := n4_; have NB294_295 := n5_; have NB295_294 := n6_; clear n0_ n1_ n2_ n3_ n4_ n5_ n6_; clear hb hbox hg))
        have n0_ := Aside0.mk (blk_drew BK294.out)
        have n1_ := Aside0.mk (blk_drew BK295.out)
        have n2_ := Aside0.mk (below_drew1 HB.out)
        clear BK294
        clear BK295
        clear HB
        have BK294 := n0_
        have BK295 := n1_
        have HB := n2_
        clear n0_ n1_ n2_
        refine start_ (n := 6) (S := fun w' => w'.cell? ⟨gb294, 0, none⟩ = some (.int .i64 a0_0) ∧ w'.cell? ⟨gb294, 1, none⟩ = some (.int .u64 a0_1) ∧ w'.cell? ⟨gb294, 2, none⟩ = some (.string a0_2) ∧ w'.cell? ⟨gb294, 3, none⟩ = some (.int .i64 a0_3) ∧ w'.cell? ⟨gb295, 0, none⟩ = some (.int .i64 a1_0) ∧ w'.cell? ⟨gb295, 1, none⟩ = some (.int .u64 a1_1) ∧ w'.cell? ⟨gb295, 2, none⟩ = some (.string a1_2) ∧ w'.cell? ⟨gb295, 3, none⟩ = some (.int .i64 a1_3)) (ds := [4, 5]) #[false, false, false, false, false, false] (by kernel_rfl) rfl rfl ⟨(blk_cell BK294.out 0).trans rfl, (blk_cell BK294.out 1).trans rfl, (blk_cell BK294.out 2).trans rfl, (blk_cell BK294.out 3).trans rfl, (blk_cell BK295.out 0).trans rfl, (blk_cell BK295.out 1).trans rfl, (blk_cell BK295.out 2).trans rfl, (blk_cell BK295.out 3).trans rfl⟩ (fun hHeld => ?_)
        generalize w26.drew = w27 at BK294 BK295 HB hHeld ⊢
        refine take_ (i := 0) (N := some 5) (v := ?_) (a' := ?_) #[true, false, false, false, false, false] rfl rfl (by kernel_rfl) (fun _ _ _ h => h) (Or.inl ⟨by rfl, ?_⟩) hHeld ?_ ?_
        rotate_left
        · rintro w' ⟨s0, s1, s2, s3, s4, s5, s6, s7⟩
          go_simp
          with_reducible rfl
        rotate_left
        · simp only [Act.put, List.setIfInBounds_toArray, List.set_cons_zero, List.set_cons_succ, i64_w, i32_w]
          rfl
        refine take_ (i := 2) (N := some 7) (v := ?_) (a' := ?_) #[true, false, true, false, false, false] rfl rfl (by kernel_rfl) (fun _ _ _ h => h) (Or.inl ⟨by rfl, ?_⟩) hHeld ?_ ?_
        rotate_left
        · rintro w' ⟨s0, s1, s2, s3, s4, s5, s6, s7⟩
          go_simp
          with_reducible rfl
        rotate_left
        · simp only [Act.put, List.setIfInBounds_toArray, List.set_cons_zero, List.set_cons_succ, i64_w, i32_w]
          rfl
        refine one_ (i := 1) (N := some 6) #[true, true, true, false, false, false] rfl rfl (by kernel_rfl) (by decide) (fun K hK => ?_)
        refine goes_ Tryd.func10 (by kernel_rfl) rfl #[.agg #[.int .i64 a0_0, .int .u64 a0_1, .string a0_2, .int .i64 a0_3]] (by rfl) rfl rfl (by (try simp only [List.map_toArray, List.map_cons, List.map_nil]); first | done | rfl | (simp only [List.length_drop, List.length_take]; rfl)) ?_
        with_reducible refine (minstrelref08_Normal.calls k a0_0 a0_1 a0_2 a0_3 t296 t297 t298 t299 _ A3.out).mono ?_
        rintro e w28 ⟨rfl, hb⟩
        refine ⟨_, rfl, ?_⟩
        have n0_ := Aside0.mk (blk_below (g := gb294) (o := .cells #[.int .i64 a0_0, .int .u64 a0_1, .string a0_2, .int .i64 a0_3] 25 (0, 0)) (by (with_reducible repeat (first | refine blk_drewN ?_ _ | refine blk_drew ?_ | refine blk_alloc ?_ _)); exact BK294.out) hb)
        have n1_ := Aside0.mk (blk_below (g := gb295) (o := .cells #[.int .i64 a1_0, .int .u64 a1_1, .string a1_2, .int .i64 a1_3] 25 (0, 0)) (by (with_reducible repeat (first | refine blk_drewN ?_ _ | refine blk_drew ?_ | refine blk_alloc ?_ _)); exact BK295.out) hb)
        have n2_ := Aside0.mk (below_step (by repeat (first | (with_reducible first | exact HB.out | apply below_alloc | apply pw_below_drewN | apply below_drew1 | refine below_set ?_ GE294.out | refine below_set ?_ GE295.out) | exact HB.out)) hb)
        clear BK294
        clear BK295
        clear HB
        have BK294 := n0_
        have BK295 := n1_
        have HB := n2_
        clear n0_ n1_ n2_
        (try clear hb)
        (try clear hb2)
        (try clear hk)
        (try clear hi)
        refine hK.out _ _ ⟨(blk_cell BK294.out 0).trans rfl, (blk_cell BK294.out 1).trans rfl, (blk_cell BK294.out 2).trans rfl, (blk_cell BK294.out 3).trans rfl, (blk_cell BK295.out 0).trans rfl, (blk_cell BK295.out 1).trans rfl, (blk_cell BK295.out 2).trans rfl, (blk_cell BK295.out 3).trans rfl⟩ (fun hHeld => ?_)
        clear hK K
        refine norm_ (a' := ?_) ?_ ?_
        rotate_left
        · show Act.put _ (some 6) _ = _
          simp only [Act.put, List.setIfInBounds_toArray, List.set_cons_zero, List.set_cons_succ, i64_w, i32_w]
          rfl
        refine one_ (i := 3) (N := some 8) #[true, true, true, true, false, false] rfl rfl (by kernel_rfl) (by decide) (fun K hK => ?_)
        refine goes_ Tryd.func10 (by kernel_rfl) rfl #[.agg #[.int .i64 a1_0, .int .u64 a1_1, .string a1_2, .int .i64 a1_3]] (by rfl) rfl rfl (by (try simp only [List.map_toArray, List.map_cons, List.map_nil]); first | done | rfl | (simp only [List.length_drop, List.length_take]; rfl)) ?_
        with_reducible refine (minstrelref08_Normal.calls k a1_0 a1_1 a1_2 a1_3 t300 t301 t302 t303 _ A4.out).mono ?_
        rintro e w29 ⟨rfl, hb⟩
        refine ⟨_, rfl, ?_⟩
        have n0_ := Aside0.mk (blk_below (g := gb294) (o := .cells #[.int .i64 a0_0, .int .u64 a0_1, .string a0_2, .int .i64 a0_3] 25 (0, 0)) (by (with_reducible repeat (first | refine blk_drewN ?_ _ | refine blk_drew ?_ | refine blk_alloc ?_ _)); exact BK294.out) hb)
        have n1_ := Aside0.mk (blk_below (g := gb295) (o := .cells #[.int .i64 a1_0, .int .u64 a1_1, .string a1_2, .int .i64 a1_3] 25 (0, 0)) (by (with_reducible repeat (first | refine blk_drewN ?_ _ | refine blk_drew ?_ | refine blk_alloc ?_ _)); exact BK295.out) hb)
        have n2_ := Aside0.mk (below_step (by repeat (first | (with_reducible first | exact HB.out | apply below_alloc | apply pw_below_drewN | apply below_drew1 | refine below_set ?_ GE294.out | refine below_set ?_ GE295.out) | exact HB.out)) hb)
        clear BK294
        clear BK295
        clear HB
        have BK294 := n0_
        have BK295 := n1_
        have HB := n2_
        clear n0_ n1_ n2_
        (try clear hb)
        (try clear hb2)
        (try clear hk)
        (try clear hi)
        refine hK.out _ _ ⟨(blk_cell BK294.out 0).trans rfl, (blk_cell BK294.out 1).trans rfl, (blk_cell BK294.out 2).trans rfl, (blk_cell BK294.out 3).trans rfl, (blk_cell BK295.out 0).trans rfl, (blk_cell BK295.out 1).trans rfl, (blk_cell BK295.out 2).trans rfl, (blk_cell BK295.out 3).trans rfl⟩ (fun hHeld => ?_)
        clear hK K
        refine norm_ (a' := ?_) ?_ ?_
        rotate_left
        · show Act.put _ (some 8) _ = _
          simp only [Act.put, List.setIfInBounds_toArray, List.set_cons_zero, List.set_cons_succ, i64_w, i32_w]
          rfl
        refine last_ (i := 4) (N := none) #[true, true, true, true, true, false] rfl rfl (by kernel_rfl) (by decide) (fun K hK => ?_)
        have hs30 : w29.cell? ⟨gb294, 0, none⟩ = some (.int .i64 a0_0) := (blk_cell BK294.out 0).trans rfl
        have hfs30 := blk_frozen BK294.out 0
        have hns30_1 := NB295_294.out
        have hms30_1 := NB294_295.out
        have hs31 : w29.cell? ⟨gb294, 1, none⟩ = some (.int .u64 a0_1) := (blk_cell BK294.out 1).trans rfl
        have hfs31 := blk_frozen BK294.out 1
        have hns31_1 := NB295_294.out
        have hms31_1 := NB294_295.out
        have hs32 : w29.cell? ⟨gb294, 2, none⟩ = some (.string a0_2) := (blk_cell BK294.out 2).trans rfl
        have hfs32 := blk_frozen BK294.out 2
        have hns32_1 := NB295_294.out
        have hms32_1 := NB294_295.out
        have hs33 : w29.cell? ⟨gb294, 3, none⟩ = some (.int .i64 a0_3) := (blk_cell BK294.out 3).trans rfl
        have hfs33 := blk_frozen BK294.out 3
        have hns33_1 := NB295_294.out
        have hms33_1 := NB294_295.out
        refine skip_ (w1 := ?_) (by rfl) rfl ?_ ?_
        rotate_left
        · go_simp
          rfl
        refine hK.out _ _ ?_
        clear hK K
        refine last_ (i := 5) (N := none) #[true, true, true, true, true, true] rfl rfl (by kernel_rfl) (by decide) (fun K hK => ?_)
        have hs34 : w29.cell? ⟨gb295, 0, none⟩ = some (.int .i64 a1_0) := (blk_cell BK295.out 0).trans rfl
        have hfs34 := blk_frozen BK295.out 0
        have hns34_0 := NB294_295.out
        have hms34_0 := NB295_294.out
        have hs35 : w29.cell? ⟨gb295, 1, none⟩ = some (.int .u64 a1_1) := (blk_cell BK295.out 1).trans rfl
        have hfs35 := blk_frozen BK295.out 1
        have hns35_0 := NB294_295.out
        have hms35_0 := NB295_294.out
        have hs36 : w29.cell? ⟨gb295, 2, none⟩ = some (.string a1_2) := (blk_cell BK295.out 2).trans rfl
        have hfs36 := blk_frozen BK295.out 2
        have hns36_0 := NB294_295.out
        have hms36_0 := NB295_294.out
        have hs37 : w29.cell? ⟨gb295, 3, none⟩ = some (.int .i64 a1_3) := (blk_cell BK295.out 3).trans rfl
        have hfs37 := blk_frozen BK295.out 3
        have hns37_0 := NB294_295.out
        have hms37_0 := NB295_294.out
        refine skip_ (w1 := ?_) (by rfl) rfl ?_ ?_
        rotate_left
        · go_simp
          rfl
        refine hK.out _ _ ?_
        clear hK K
        refine done_ (by kernel_rfl) ?_
        have hnb38 := NB294_295.out
        have hnc38 := NB295_294.out
        have hcz39_0 : w29.cell? ⟨gb294, 0, none⟩ = some (.int .i64 a0_0) := (blk_cell BK294.out 0).trans rfl
        have hcz39_1 : w29.cell? ⟨gb294, 1, none⟩ = some (.int .u64 a0_1) := (blk_cell BK294.out 1).trans rfl
        have hcz39_2 : w29.cell? ⟨gb294, 2, none⟩ = some (.string a0_2) := (blk_cell BK294.out 2).trans rfl
        have hcz39_3 : w29.cell? ⟨gb294, 3, none⟩ = some (.int .i64 a0_3) := (blk_cell BK294.out 3).trans rfl
        have hfz39_0 := blk_frozen BK294.out 0
        have hfz39_1 := blk_frozen BK294.out 1
        have hfz39_2 := blk_frozen BK294.out 2
        have hfz39_3 := blk_frozen BK294.out 3
        have hcz40_0 : w29.cell? ⟨gb295, 0, none⟩ = some (.int .i64 a1_0) := (blk_cell BK295.out 0).trans rfl
        have hcz40_1 : w29.cell? ⟨gb295, 1, none⟩ = some (.int .u64 a1_1) := (blk_cell BK295.out 1).trans rfl
        have hcz40_2 : w29.cell? ⟨gb295, 2, none⟩ = some (.string a1_2) := (blk_cell BK295.out 2).trans rfl
        have hcz40_3 : w29.cell? ⟨gb295, 3, none⟩ = some (.int .i64 a1_3) := (blk_cell BK295.out 3).trans rfl
        have hfz40_0 := blk_frozen BK295.out 0
        have hfz40_1 := blk_frozen BK295.out 1
        have hfz40_2 := blk_frozen BK295.out 2
        have hfz40_3 := blk_frozen BK295.out 3
        try go_wp2
        go_ret
        exact ⟨by first | rfl | (simp [errW_none, errW_some] <;> rfl) | (simp [*, errW_none, errW_some] <;> rfl), by repeat (first | (with_reducible first | exact HB.out | apply below_alloc | apply pw_below_drewN | apply below_drew1 | refine below_set ?_ GE294.out | refine below_set ?_ GE295.out) | exact HB.out)⟩
      · rw [if_neg c24] at H
        have c24b0 : (t298.toList == t302.toList) = false := beq_eq_false_iff_ne.mpr c24
        have c24b1 : (t298.toList != t302.toList) = true := bne_iff_ne.mpr c24
        obtain rfl := Option.some.inj H
        go_enter Tryd.func8, Tryd.ntmps8
        try go_wp2_with (first | ((with_reducible refine gate_dst (N := 2) rfl ?_); refine box_event ?hg (N := 2) ?hd (cs := #[.int .i64 a0_0, .int .u64 a0_1, .string a0_2, .int .i64 a0_3]) (t := 25) ?hr ?_; (case hd => rfl); (case hg => rfl); (case hr => first | (go_simp; done) | (go_simp; rfl)); intro gb294 hg w41 hbox hb; have n0_ := Aside0.mk (below_step (by repeat (first | (with_reducible first | exact HB.out | apply below_alloc | apply pw_below_drewN | apply below_drew1) | exact HB.out)) hb); have n1_ := Aside0.mk (hbox); have n2_ := Aside0.mk ((by rw [hg]; exact (below_size (by repeat (first | (with_reducible first | exact HB.out | apply below_alloc | apply pw_below_drewN | apply below_drew1) | exact HB.out))) : w.heap.size ≤ gb294)); have n3_ := Aside0.mk ((by rw [hg]; exact (below_size (by repeat (first | (with_reducible first | exact HB.out | apply below_alloc | apply pw_below_drewN | apply below_drew1) | exact HB.out))) : w.heap.size ≤ gb294)); clear HB; have HB := n0_; have BK294 := n1_; have GW294 := n2_; have GE294 := n3_; clear n0_ n1_ n2_ n3_; clear hb hbox hg) | ((with_reducible refine gate_dst (N := 3) rfl ?_); refine box_event ?hg (N := 3) ?hd (cs := #[.int .i64 a1_0, .int .u64 a1_1, .string a1_2, .int .i64 a1_3]) (t := 25) ?hr ?_; (case hd => rfl); (case hg => rfl); (case hr => first | (go_simp; done) | (go_simp; rfl)); intro gb295 hg w42 hbox hb; have n0_ := Aside0.mk (blk_below (g := gb294) (o := .cells #[.int .i64 a0_0, .int .u64 a0_1, .string a0_2, .int .i64 a0_3] 25 (0, 0)) (by (with_reducible repeat (first | refine blk_drewN ?_ _ | refine blk_drew ?_ | refine blk_alloc ?_ _)); exact BK294.out) hb); have n1_ := Aside0.mk (below_step (by repeat (first | (with_reducible first | exact HB.out | apply below_alloc | apply pw_below_drewN | apply below_drew1 | refine below_set ?_ GE294.out) | exact HB.out)) hb); have n2_ := Aside0.mk (hbox); have n3_ := Aside0.mk ((by rw [hg]; exact (below_size (by repeat (first | (with_reducible first | exact HB.out | apply below_alloc | apply pw_below_drewN | apply below_drew1 | refine below_set ?_ GE294.out) | exact HB.out))) : w.heap.size ≤ gb295)); have n4_ := Aside0.mk ((by rw [hg]; exact (below_size (by repeat (first | (with_reducible first | exact HB.out | apply below_alloc | apply pw_below_drewN | apply below_drew1 | refine below_set ?_ GE294.out) | exact HB.out))) : w.heap.size ≤ gb295)); have n5_ := Aside0.mk ((by rw [hg]; exact Nat.ne_of_lt (blk_lt (g := gb294) (o := .cells #[.int .i64 a0_0, .int .u64 a0_1, .string a0_2, .int .i64 a0_3] 25 (0, 0)) (by (with_reducible repeat (first | refine blk_drewN ?_ _ | refine blk_drew ?_ | refine blk_alloc ?_ _)); exact BK294.out)) : gb294 ≠ gb295)); have n6_ := Aside0.mk ((by rw [hg]; exact Nat.ne_of_gt (blk_lt (g := gb294) (o := .cells #[.int .i64 a0_0, .int .u64 a0_1, .string a0_2, .int .i64 a0_3] 25 (0, 0)) (by (with_reducible repeat (first | refine blk_drewN ?_ _ | refine blk_drew ?_ | refine blk_alloc ?_ _)); exact BK294.out)) : gb295 ≠ gb294)); clear BK294; clear HB; have BK294 := n0_; have HB := n1_; have BK295 := n2_; have GW295 := n3_; have GE295 := n4_; have NB294_295 := n5_; have NB295_294 := n6_; clear n0_ n1_ n2_ n3_ n4_ n5_ n6_; clear hb hbox hg))
        have n0_ := Aside0.mk (blk_drew BK294.out)
        have n1_ := Aside0.mk (blk_drew BK295.out)
        have n2_ := Aside0.mk (below_drew1 HB.out)
        clear BK294
        clear BK295
        clear HB
        have BK294 := n0_
        have BK295 := n1_
        have HB := n2_
        clear n0_ n1_ n2_
        refine start_ (n := 6) (S := fun w' => w'.cell? ⟨gb294, 0, none⟩ = some (.int .i64 a0_0) ∧ w'.cell? ⟨gb294, 1, none⟩ = some (.int .u64 a0_1) ∧ w'.cell? ⟨gb294, 2, none⟩ = some (.string a0_2) ∧ w'.cell? ⟨gb294, 3, none⟩ = some (.int .i64 a0_3) ∧ w'.cell? ⟨gb295, 0, none⟩ = some (.int .i64 a1_0) ∧ w'.cell? ⟨gb295, 1, none⟩ = some (.int .u64 a1_1) ∧ w'.cell? ⟨gb295, 2, none⟩ = some (.string a1_2) ∧ w'.cell? ⟨gb295, 3, none⟩ = some (.int .i64 a1_3)) (ds := [4, 5]) #[false, false, false, false, false, false] (by kernel_rfl) rfl rfl ⟨(blk_cell BK294.out 0).trans rfl, (blk_cell BK294.out 1).trans rfl, (blk_cell BK294.out 2).trans rfl, (blk_cell BK294.out 3).trans rfl, (blk_cell BK295.out 0).trans rfl, (blk_cell BK295.out 1).trans rfl, (blk_cell BK295.out 2).trans rfl, (blk_cell BK295.out 3).trans rfl⟩ (fun hHeld => ?_)
        generalize w42.drew = w43 at BK294 BK295 HB hHeld ⊢
        refine take_ (i := 0) (N := some 5) (v := ?_) (a' := ?_) #[true, false, false, false, false, false] rfl rfl (by kernel_rfl) (fun _ _ _ h => h) (Or.inl ⟨by rfl, ?_⟩) hHeld ?_ ?_
        rotate_left
        · rintro w' ⟨s0, s1, s2, s3, s4, s5, s6, s7⟩
          go_simp
          with_reducible rfl
        rotate_left
        · simp only [Act.put, List.setIfInBounds_toArray, List.set_cons_zero, List.set_cons_succ, i64_w, i32_w]
          rfl
        refine take_ (i := 2) (N := some 7) (v := ?_) (a' := ?_) #[true, false, true, false, false, false] rfl rfl (by kernel_rfl) (fun _ _ _ h => h) (Or.inl ⟨by rfl, ?_⟩) hHeld ?_ ?_
        rotate_left
        · rintro w' ⟨s0, s1, s2, s3, s4, s5, s6, s7⟩
          go_simp
          with_reducible rfl
        rotate_left
        · simp only [Act.put, List.setIfInBounds_toArray, List.set_cons_zero, List.set_cons_succ, i64_w, i32_w]
          rfl
        refine one_ (i := 1) (N := some 6) #[true, true, true, false, false, false] rfl rfl (by kernel_rfl) (by decide) (fun K hK => ?_)
        refine goes_ Tryd.func10 (by kernel_rfl) rfl #[.agg #[.int .i64 a0_0, .int .u64 a0_1, .string a0_2, .int .i64 a0_3]] (by rfl) rfl rfl (by (try simp only [List.map_toArray, List.map_cons, List.map_nil]); first | done | rfl | (simp only [List.length_drop, List.length_take]; rfl)) ?_
        with_reducible refine (minstrelref08_Normal.calls k a0_0 a0_1 a0_2 a0_3 t296 t297 t298 t299 _ A3.out).mono ?_
        rintro e w44 ⟨rfl, hb⟩
        refine ⟨_, rfl, ?_⟩
        have n0_ := Aside0.mk (blk_below (g := gb294) (o := .cells #[.int .i64 a0_0, .int .u64 a0_1, .string a0_2, .int .i64 a0_3] 25 (0, 0)) (by (with_reducible repeat (first | refine blk_drewN ?_ _ | refine blk_drew ?_ | refine blk_alloc ?_ _)); exact BK294.out) hb)
        have n1_ := Aside0.mk (blk_below (g := gb295) (o := .cells #[.int .i64 a1_0, .int .u64 a1_1, .string a1_2, .int .i64 a1_3] 25 (0, 0)) (by (with_reducible repeat (first | refine blk_drewN ?_ _ | refine blk_drew ?_ | refine blk_alloc ?_ _)); exact BK295.out) hb)
        have n2_ := Aside0.mk (below_step (by repeat (first | (with_reducible first | exact HB.out | apply below_alloc | apply pw_below_drewN | apply below_drew1 | refine below_set ?_ GE294.out | refine below_set ?_ GE295.out) | exact HB.out)) hb)
        clear BK294
        clear BK295
        clear HB
        have BK294 := n0_
        have BK295 := n1_
        have HB := n2_
        clear n0_ n1_ n2_
        (try clear hb)
        (try clear hb2)
        (try clear hk)
        (try clear hi)
        refine hK.out _ _ ⟨(blk_cell BK294.out 0).trans rfl, (blk_cell BK294.out 1).trans rfl, (blk_cell BK294.out 2).trans rfl, (blk_cell BK294.out 3).trans rfl, (blk_cell BK295.out 0).trans rfl, (blk_cell BK295.out 1).trans rfl, (blk_cell BK295.out 2).trans rfl, (blk_cell BK295.out 3).trans rfl⟩ (fun hHeld => ?_)
        clear hK K
        refine norm_ (a' := ?_) ?_ ?_
        rotate_left
        · show Act.put _ (some 6) _ = _
          simp only [Act.put, List.setIfInBounds_toArray, List.set_cons_zero, List.set_cons_succ, i64_w, i32_w]
          rfl
        refine one_ (i := 3) (N := some 8) #[true, true, true, true, false, false] rfl rfl (by kernel_rfl) (by decide) (fun K hK => ?_)
        refine goes_ Tryd.func10 (by kernel_rfl) rfl #[.agg #[.int .i64 a1_0, .int .u64 a1_1, .string a1_2, .int .i64 a1_3]] (by rfl) rfl rfl (by (try simp only [List.map_toArray, List.map_cons, List.map_nil]); first | done | rfl | (simp only [List.length_drop, List.length_take]; rfl)) ?_
        with_reducible refine (minstrelref08_Normal.calls k a1_0 a1_1 a1_2 a1_3 t300 t301 t302 t303 _ A4.out).mono ?_
        rintro e w45 ⟨rfl, hb⟩
        refine ⟨_, rfl, ?_⟩
        have n0_ := Aside0.mk (blk_below (g := gb294) (o := .cells #[.int .i64 a0_0, .int .u64 a0_1, .string a0_2, .int .i64 a0_3] 25 (0, 0)) (by (with_reducible repeat (first | refine blk_drewN ?_ _ | refine blk_drew ?_ | refine blk_alloc ?_ _)); exact BK294.out) hb)
        have n1_ := Aside0.mk (blk_below (g := gb295) (o := .cells #[.int .i64 a1_0, .int .u64 a1_1, .string a1_2, .int .i64 a1_3] 25 (0, 0)) (by (with_reducible repeat (first | refine blk_drewN ?_ _ | refine blk_drew ?_ | refine blk_alloc ?_ _)); exact BK295.out) hb)
        have n2_ := Aside0.mk (below_step (by repeat (first | (with_reducible first | exact HB.out | apply below_alloc | apply pw_below_drewN | apply below_drew1 | refine below_set ?_ GE294.out | refine below_set ?_ GE295.out) | exact HB.out)) hb)
        clear BK294
        clear BK295
        clear HB
        have BK294 := n0_
        have BK295 := n1_
        have HB := n2_
        clear n0_ n1_ n2_
        (try clear hb)
        (try clear hb2)
        (try clear hk)
        (try clear hi)
        refine hK.out _ _ ⟨(blk_cell BK294.out 0).trans rfl, (blk_cell BK294.out 1).trans rfl, (blk_cell BK294.out 2).trans rfl, (blk_cell BK294.out 3).trans rfl, (blk_cell BK295.out 0).trans rfl, (blk_cell BK295.out 1).trans rfl, (blk_cell BK295.out 2).trans rfl, (blk_cell BK295.out 3).trans rfl⟩ (fun hHeld => ?_)
        clear hK K
        refine norm_ (a' := ?_) ?_ ?_
        rotate_left
        · show Act.put _ (some 8) _ = _
          simp only [Act.put, List.setIfInBounds_toArray, List.set_cons_zero, List.set_cons_succ, i64_w, i32_w]
          rfl
        refine last_ (i := 4) (N := none) #[true, true, true, true, true, false] rfl rfl (by kernel_rfl) (by decide) (fun K hK => ?_)
        have hs46 : w45.cell? ⟨gb294, 0, none⟩ = some (.int .i64 a0_0) := (blk_cell BK294.out 0).trans rfl
        have hfs46 := blk_frozen BK294.out 0
        have hns46_1 := NB295_294.out
        have hms46_1 := NB294_295.out
        have hs47 : w45.cell? ⟨gb294, 1, none⟩ = some (.int .u64 a0_1) := (blk_cell BK294.out 1).trans rfl
        have hfs47 := blk_frozen BK294.out 1
        have hns47_1 := NB295_294.out
        have hms47_1 := NB294_295.out
        have hs48 : w45.cell? ⟨gb294, 2, none⟩ = some (.string a0_2) := (blk_cell BK294.out 2).trans rfl
        have hfs48 := blk_frozen BK294.out 2
        have hns48_1 := NB295_294.out
        have hms48_1 := NB294_295.out
        have hs49 : w45.cell? ⟨gb294, 3, none⟩ = some (.int .i64 a0_3) := (blk_cell BK294.out 3).trans rfl
        have hfs49 := blk_frozen BK294.out 3
        have hns49_1 := NB295_294.out
        have hms49_1 := NB294_295.out
        refine skip_ (w1 := ?_) (by rfl) rfl ?_ ?_
        rotate_left
        · go_simp
          rfl
        refine hK.out _ _ ?_
        clear hK K
        refine last_ (i := 5) (N := none) #[true, true, true, true, true, true] rfl rfl (by kernel_rfl) (by decide) (fun K hK => ?_)
        have hs50 : w45.cell? ⟨gb295, 0, none⟩ = some (.int .i64 a1_0) := (blk_cell BK295.out 0).trans rfl
        have hfs50 := blk_frozen BK295.out 0
        have hns50_0 := NB294_295.out
        have hms50_0 := NB295_294.out
        have hs51 : w45.cell? ⟨gb295, 1, none⟩ = some (.int .u64 a1_1) := (blk_cell BK295.out 1).trans rfl
        have hfs51 := blk_frozen BK295.out 1
        have hns51_0 := NB294_295.out
        have hms51_0 := NB295_294.out
        have hs52 : w45.cell? ⟨gb295, 2, none⟩ = some (.string a1_2) := (blk_cell BK295.out 2).trans rfl
        have hfs52 := blk_frozen BK295.out 2
        have hns52_0 := NB294_295.out
        have hms52_0 := NB295_294.out
        have hs53 : w45.cell? ⟨gb295, 3, none⟩ = some (.int .i64 a1_3) := (blk_cell BK295.out 3).trans rfl
        have hfs53 := blk_frozen BK295.out 3
        have hns53_0 := NB294_295.out
        have hms53_0 := NB295_294.out
        refine skip_ (w1 := ?_) (by rfl) rfl ?_ ?_
        rotate_left
        · go_simp
          rfl
        refine hK.out _ _ ?_
        clear hK K
        refine done_ (by kernel_rfl) ?_
        have hnb54 := NB294_295.out
        have hnc54 := NB295_294.out
        have hcz55_0 : w45.cell? ⟨gb294, 0, none⟩ = some (.int .i64 a0_0) := (blk_cell BK294.out 0).trans rfl
        have hcz55_1 : w45.cell? ⟨gb294, 1, none⟩ = some (.int .u64 a0_1) := (blk_cell BK294.out 1).trans rfl
        have hcz55_2 : w45.cell? ⟨gb294, 2, none⟩ = some (.string a0_2) := (blk_cell BK294.out 2).trans rfl
        have hcz55_3 : w45.cell? ⟨gb294, 3, none⟩ = some (.int .i64 a0_3) := (blk_cell BK294.out 3).trans rfl
        have hfz55_0 := blk_frozen BK294.out 0
        have hfz55_1 := blk_frozen BK294.out 1
        have hfz55_2 := blk_frozen BK294.out 2
        have hfz55_3 := blk_frozen BK294.out 3
        have hcz56_0 : w45.cell? ⟨gb295, 0, none⟩ = some (.int .i64 a1_0) := (blk_cell BK295.out 0).trans rfl
        have hcz56_1 : w45.cell? ⟨gb295, 1, none⟩ = some (.int .u64 a1_1) := (blk_cell BK295.out 1).trans rfl
        have hcz56_2 : w45.cell? ⟨gb295, 2, none⟩ = some (.string a1_2) := (blk_cell BK295.out 2).trans rfl
        have hcz56_3 : w45.cell? ⟨gb295, 3, none⟩ = some (.int .i64 a1_3) := (blk_cell BK295.out 3).trans rfl
        have hfz56_0 := blk_frozen BK295.out 0
        have hfz56_1 := blk_frozen BK295.out 1
        have hfz56_2 := blk_frozen BK295.out 2
        have hfz56_3 := blk_frozen BK295.out 3
        try go_wp2
        go_ret
        exact ⟨by first | rfl | (simp [errW_none, errW_some] <;> rfl) | (simp [*, errW_none, errW_some] <;> rfl), by repeat (first | (with_reducible first | exact HB.out | apply below_alloc | apply pw_below_drewN | apply below_drew1 | refine below_set ?_ GE294.out | refine below_set ?_ GE295.out) | exact HB.out)⟩
  · rw [if_neg c5] at H
    have c5b0 : (t296 == t300) = false := beq_eq_false_iff_ne.mpr c5
    have c5b1 : (t296 != t300) = true := bne_iff_ne.mpr c5
    obtain rfl := Option.some.inj H
    go_enter Tryd.func8, Tryd.ntmps8
    try go_wp2_with (first | ((with_reducible refine gate_dst (N := 2) rfl ?_); refine box_event ?hg (N := 2) ?hd (cs := #[.int .i64 a0_0, .int .u64 a0_1, .string a0_2, .int .i64 a0_3]) (t := 25) ?hr ?_; (case hd => rfl); (case hg => rfl); (case hr => first | (go_simp; done) | (go_simp; rfl)); intro gb294 hg w57 hbox hb; have n0_ := Aside0.mk (below_step (by repeat (first | (with_reducible first | exact HB.out | apply below_alloc | apply pw_below_drewN | apply below_drew1) | exact HB.out)) hb); have n1_ := Aside0.mk (hbox); have n2_ := Aside0.mk ((by rw [hg]; exact (below_size (by repeat (first | (with_reducible first | exact HB.out | apply below_alloc | apply pw_below_drewN | apply below_drew1) | exact HB.out))) : w.heap.size ≤ gb294)); have n3_ := Aside0.mk ((by rw [hg]; exact (below_size (by repeat (first | (with_reducible first | exact HB.out | apply below_alloc | apply pw_below_drewN | apply below_drew1) | exact HB.out))) : w.heap.size ≤ gb294)); clear HB; have HB := n0_; have BK294 := n1_; have GW294 := n2_; have GE294 := n3_; clear n0_ n1_ n2_ n3_; clear hb hbox hg) | ((with_reducible refine gate_dst (N := 3) rfl ?_); refine box_event ?hg (N := 3) ?hd (cs := #[.int .i64 a1_0, .int .u64 a1_1, .string a1_2, .int .i64 a1_3]) (t := 25) ?hr ?_; (case hd => rfl); (case hg => rfl); (case hr => first | (go_simp; done) | (go_simp; rfl)); intro gb295 hg w58 hbox hb; have n0_ := Aside0.mk (blk_below (g := gb294) (o := .cells #[.int .i64 a0_0, .int .u64 a0_1, .string a0_2, .int .i64 a0_3] 25 (0, 0)) (by (with_reducible repeat (first | refine blk_drewN ?_ _ | refine blk_drew ?_ | refine blk_alloc ?_ _)); exact BK294.out) hb); have n1_ := Aside0.mk (below_step (by repeat (first | (with_reducible first | exact HB.out | apply below_alloc | apply pw_below_drewN | apply below_drew1 | refine below_set ?_ GE294.out) | exact HB.out)) hb); have n2_ := Aside0.mk (hbox); have n3_ := Aside0.mk ((by rw [hg]; exact (below_size (by repeat (first | (with_reducible first | exact HB.out | apply below_alloc | apply pw_below_drewN | apply below_drew1 | refine below_set ?_ GE294.out) | exact HB.out))) : w.heap.size ≤ gb295)); have n4_ := Aside0.mk ((by rw [hg]; exact (below_size (by repeat (first | (with_reducible first | exact HB.out | apply below_alloc | apply pw_below_drewN | apply below_drew1 | refine below_set ?_ GE294.out) | exact HB.out))) : w.heap.size ≤ gb295)); have n5_ := Aside0.mk ((by rw [hg]; exact Nat.ne_of_lt (blk_lt (g := gb294) (o := .cells #[.int .i64 a0_0, .int .u64 a0_1, .string a0_2, .int .i64 a0_3] 25 (0, 0)) (by (with_reducible repeat (first | refine blk_drewN ?_ _ | refine blk_drew ?_ | refine blk_alloc ?_ _)); exact BK294.out)) : gb294 ≠ gb295)); have n6_ := Aside0.mk ((by rw [hg]; exact Nat.ne_of_gt (blk_lt (g := gb294) (o := .cells #[.int .i64 a0_0, .int .u64 a0_1, .string a0_2, .int .i64 a0_3] 25 (0, 0)) (by (with_reducible repeat (first | refine blk_drewN ?_ _ | refine blk_drew ?_ | refine blk_alloc ?_ _)); exact BK294.out)) : gb295 ≠ gb294)); clear BK294; clear HB; have BK294 := n0_; have HB := n1_; have BK295 := n2_; have GW295 := n3_; have GE295 := n4_; have NB294_295 := n5_; have NB295_294 := n6_; clear n0_ n1_ n2_ n3_ n4_ n5_ n6_; clear hb hbox hg))
    have n0_ := Aside0.mk (blk_drew BK294.out)
    have n1_ := Aside0.mk (blk_drew BK295.out)
    have n2_ := Aside0.mk (below_drew1 HB.out)
    clear BK294
    clear BK295
    clear HB
    have BK294 := n0_
    have BK295 := n1_
    have HB := n2_
    clear n0_ n1_ n2_
    refine start_ (n := 6) (S := fun w' => w'.cell? ⟨gb294, 0, none⟩ = some (.int .i64 a0_0) ∧ w'.cell? ⟨gb294, 1, none⟩ = some (.int .u64 a0_1) ∧ w'.cell? ⟨gb294, 2, none⟩ = some (.string a0_2) ∧ w'.cell? ⟨gb294, 3, none⟩ = some (.int .i64 a0_3) ∧ w'.cell? ⟨gb295, 0, none⟩ = some (.int .i64 a1_0) ∧ w'.cell? ⟨gb295, 1, none⟩ = some (.int .u64 a1_1) ∧ w'.cell? ⟨gb295, 2, none⟩ = some (.string a1_2) ∧ w'.cell? ⟨gb295, 3, none⟩ = some (.int .i64 a1_3)) (ds := [4, 5]) #[false, false, false, false, false, false] (by kernel_rfl) rfl rfl ⟨(blk_cell BK294.out 0).trans rfl, (blk_cell BK294.out 1).trans rfl, (blk_cell BK294.out 2).trans rfl, (blk_cell BK294.out 3).trans rfl, (blk_cell BK295.out 0).trans rfl, (blk_cell BK295.out 1).trans rfl, (blk_cell BK295.out 2).trans rfl, (blk_cell BK295.out 3).trans rfl⟩ (fun hHeld => ?_)
    generalize w58.drew = w59 at BK294 BK295 HB hHeld ⊢
    refine take_ (i := 0) (N := some 5) (v := ?_) (a' := ?_) #[true, false, false, false, false, false] rfl rfl (by kernel_rfl) (fun _ _ _ h => h) (Or.inl ⟨by rfl, ?_⟩) hHeld ?_ ?_
    rotate_left
    · rintro w' ⟨s0, s1, s2, s3, s4, s5, s6, s7⟩
      go_simp
      with_reducible rfl
    rotate_left
    · simp only [Act.put, List.setIfInBounds_toArray, List.set_cons_zero, List.set_cons_succ, i64_w, i32_w]
      rfl
    refine take_ (i := 2) (N := some 7) (v := ?_) (a' := ?_) #[true, false, true, false, false, false] rfl rfl (by kernel_rfl) (fun _ _ _ h => h) (Or.inl ⟨by rfl, ?_⟩) hHeld ?_ ?_
    rotate_left
    · rintro w' ⟨s0, s1, s2, s3, s4, s5, s6, s7⟩
      go_simp
      with_reducible rfl
    rotate_left
    · simp only [Act.put, List.setIfInBounds_toArray, List.set_cons_zero, List.set_cons_succ, i64_w, i32_w]
      rfl
    refine one_ (i := 1) (N := some 6) #[true, true, true, false, false, false] rfl rfl (by kernel_rfl) (by decide) (fun K hK => ?_)
    refine goes_ Tryd.func10 (by kernel_rfl) rfl #[.agg #[.int .i64 a0_0, .int .u64 a0_1, .string a0_2, .int .i64 a0_3]] (by rfl) rfl rfl (by (try simp only [List.map_toArray, List.map_cons, List.map_nil]); first | done | rfl | (simp only [List.length_drop, List.length_take]; rfl)) ?_
    with_reducible refine (minstrelref08_Normal.calls k a0_0 a0_1 a0_2 a0_3 t296 t297 t298 t299 _ A3.out).mono ?_
    rintro e w60 ⟨rfl, hb⟩
    refine ⟨_, rfl, ?_⟩
    have n0_ := Aside0.mk (blk_below (g := gb294) (o := .cells #[.int .i64 a0_0, .int .u64 a0_1, .string a0_2, .int .i64 a0_3] 25 (0, 0)) (by (with_reducible repeat (first | refine blk_drewN ?_ _ | refine blk_drew ?_ | refine blk_alloc ?_ _)); exact BK294.out) hb)
    have n1_ := Aside0.mk (blk_below (g := gb295) (o := .cells #[.int .i64 a1_0, .int .u64 a1_1, .string a1_2, .int .i64 a1_3] 25 (0, 0)) (by (with_reducible repeat (first | refine blk_drewN ?_ _ | refine blk_drew ?_ | refine blk_alloc ?_ _)); exact BK295.out) hb)
    have n2_ := Aside0.mk (below_step (by repeat (first | (with_reducible first | exact HB.out | apply below_alloc | apply pw_below_drewN | apply below_drew1 | refine below_set ?_ GE294.out | refine below_set ?_ GE295.out) | exact HB.out)) hb)
    clear BK294
    clear BK295
    clear HB
    have BK294 := n0_
    have BK295 := n1_
    have HB := n2_
    clear n0_ n1_ n2_
    (try clear hb)
    (try clear hb2)
    (try clear hk)
    (try clear hi)
    refine hK.out _ _ ⟨(blk_cell BK294.out 0).trans rfl, (blk_cell BK294.out 1).trans rfl, (blk_cell BK294.out 2).trans rfl, (blk_cell BK294.out 3).trans rfl, (blk_cell BK295.out 0).trans rfl, (blk_cell BK295.out 1).trans rfl, (blk_cell BK295.out 2).trans rfl, (blk_cell BK295.out 3).trans rfl⟩ (fun hHeld => ?_)
    clear hK K
    refine norm_ (a' := ?_) ?_ ?_
    rotate_left
    · show Act.put _ (some 6) _ = _
      simp only [Act.put, List.setIfInBounds_toArray, List.set_cons_zero, List.set_cons_succ, i64_w, i32_w]
      rfl
    refine one_ (i := 3) (N := some 8) #[true, true, true, true, false, false] rfl rfl (by kernel_rfl) (by decide) (fun K hK => ?_)
    refine goes_ Tryd.func10 (by kernel_rfl) rfl #[.agg #[.int .i64 a1_0, .int .u64 a1_1, .string a1_2, .int .i64 a1_3]] (by rfl) rfl rfl (by (try simp only [List.map_toArray, List.map_cons, List.map_nil]); first | done | rfl | (simp only [List.length_drop, List.length_take]; rfl)) ?_
    with_reducible refine (minstrelref08_Normal.calls k a1_0 a1_1 a1_2 a1_3 t300 t301 t302 t303 _ A4.out).mono ?_
    rintro e w61 ⟨rfl, hb⟩
    refine ⟨_, rfl, ?_⟩
    have n0_ := Aside0.mk (blk_below (g := gb294) (o := .cells #[.int .i64 a0_0, .int .u64 a0_1, .string a0_2, .int .i64 a0_3] 25 (0, 0)) (by (with_reducible repeat (first | refine blk_drewN ?_ _ | refine blk_drew ?_ | refine blk_alloc ?_ _)); exact BK294.out) hb)
    have n1_ := Aside0.mk (blk_below (g := gb295) (o := .cells #[.int .i64 a1_0, .int .u64 a1_1, .string a1_2, .int .i64 a1_3] 25 (0, 0)) (by (with_reducible repeat (first | refine blk_drewN ?_ _ | refine blk_drew ?_ | refine blk_alloc ?_ _)); exact BK295.out) hb)
    have n2_ := Aside0.mk (below_step (by repeat (first | (with_reducible first | exact HB.out | apply below_alloc | apply pw_below_drewN | apply below_drew1 | refine below_set ?_ GE294.out | refine below_set ?_ GE295.out) | exact HB.out)) hb)
    clear BK294
    clear BK295
    clear HB
    have BK294 := n0_
    have BK295 := n1_
    have HB := n2_
    clear n0_ n1_ n2_
    (try clear hb)
    (try clear hb2)
    (try clear hk)
    (try clear hi)
    refine hK.out _ _ ⟨(blk_cell BK294.out 0).trans rfl, (blk_cell BK294.out 1).trans rfl, (blk_cell BK294.out 2).trans rfl, (blk_cell BK294.out 3).trans rfl, (blk_cell BK295.out 0).trans rfl, (blk_cell BK295.out 1).trans rfl, (blk_cell BK295.out 2).trans rfl, (blk_cell BK295.out 3).trans rfl⟩ (fun hHeld => ?_)
    clear hK K
    refine norm_ (a' := ?_) ?_ ?_
    rotate_left
    · show Act.put _ (some 8) _ = _
      simp only [Act.put, List.setIfInBounds_toArray, List.set_cons_zero, List.set_cons_succ, i64_w, i32_w]
      rfl
    refine last_ (i := 4) (N := none) #[true, true, true, true, true, false] rfl rfl (by kernel_rfl) (by decide) (fun K hK => ?_)
    have hs62 : w61.cell? ⟨gb294, 0, none⟩ = some (.int .i64 a0_0) := (blk_cell BK294.out 0).trans rfl
    have hfs62 := blk_frozen BK294.out 0
    have hns62_1 := NB295_294.out
    have hms62_1 := NB294_295.out
    have hs63 : w61.cell? ⟨gb294, 1, none⟩ = some (.int .u64 a0_1) := (blk_cell BK294.out 1).trans rfl
    have hfs63 := blk_frozen BK294.out 1
    have hns63_1 := NB295_294.out
    have hms63_1 := NB294_295.out
    have hs64 : w61.cell? ⟨gb294, 2, none⟩ = some (.string a0_2) := (blk_cell BK294.out 2).trans rfl
    have hfs64 := blk_frozen BK294.out 2
    have hns64_1 := NB295_294.out
    have hms64_1 := NB294_295.out
    have hs65 : w61.cell? ⟨gb294, 3, none⟩ = some (.int .i64 a0_3) := (blk_cell BK294.out 3).trans rfl
    have hfs65 := blk_frozen BK294.out 3
    have hns65_1 := NB295_294.out
    have hms65_1 := NB294_295.out
    refine skip_ (w1 := ?_) (by rfl) rfl ?_ ?_
    rotate_left
    · go_simp
      rfl
    refine hK.out _ _ ?_
    clear hK K
    refine last_ (i := 5) (N := none) #[true, true, true, true, true, true] rfl rfl (by kernel_rfl) (by decide) (fun K hK => ?_)
    have hs66 : w61.cell? ⟨gb295, 0, none⟩ = some (.int .i64 a1_0) := (blk_cell BK295.out 0).trans rfl
    have hfs66 := blk_frozen BK295.out 0
    have hns66_0 := NB294_295.out
    have hms66_0 := NB295_294.out
    have hs67 : w61.cell? ⟨gb295, 1, none⟩ = some (.int .u64 a1_1) := (blk_cell BK295.out 1).trans rfl
    have hfs67 := blk_frozen BK295.out 1
    have hns67_0 := NB294_295.out
    have hms67_0 := NB295_294.out
    have hs68 : w61.cell? ⟨gb295, 2, none⟩ = some (.string a1_2) := (blk_cell BK295.out 2).trans rfl
    have hfs68 := blk_frozen BK295.out 2
    have hns68_0 := NB294_295.out
    have hms68_0 := NB295_294.out
    have hs69 : w61.cell? ⟨gb295, 3, none⟩ = some (.int .i64 a1_3) := (blk_cell BK295.out 3).trans rfl
    have hfs69 := blk_frozen BK295.out 3
    have hns69_0 := NB294_295.out
    have hms69_0 := NB295_294.out
    refine skip_ (w1 := ?_) (by rfl) rfl ?_ ?_
    rotate_left
    · go_simp
      rfl
    refine hK.out _ _ ?_
    clear hK K
    refine done_ (by kernel_rfl) ?_
    have hnb70 := NB294_295.out
    have hnc70 := NB295_294.out
    have hcz71_0 : w61.cell? ⟨gb294, 0, none⟩ = some (.int .i64 a0_0) := (blk_cell BK294.out 0).trans rfl
    have hcz71_1 : w61.cell? ⟨gb294, 1, none⟩ = some (.int .u64 a0_1) := (blk_cell BK294.out 1).trans rfl
    have hcz71_2 : w61.cell? ⟨gb294, 2, none⟩ = some (.string a0_2) := (blk_cell BK294.out 2).trans rfl
    have hcz71_3 : w61.cell? ⟨gb294, 3, none⟩ = some (.int .i64 a0_3) := (blk_cell BK294.out 3).trans rfl
    have hfz71_0 := blk_frozen BK294.out 0
    have hfz71_1 := blk_frozen BK294.out 1
    have hfz71_2 := blk_frozen BK294.out 2
    have hfz71_3 := blk_frozen BK294.out 3
    have hcz72_0 : w61.cell? ⟨gb295, 0, none⟩ = some (.int .i64 a1_0) := (blk_cell BK295.out 0).trans rfl
    have hcz72_1 : w61.cell? ⟨gb295, 1, none⟩ = some (.int .u64 a1_1) := (blk_cell BK295.out 1).trans rfl
    have hcz72_2 : w61.cell? ⟨gb295, 2, none⟩ = some (.string a1_2) := (blk_cell BK295.out 2).trans rfl
    have hcz72_3 : w61.cell? ⟨gb295, 3, none⟩ = some (.int .i64 a1_3) := (blk_cell BK295.out 3).trans rfl
    have hfz72_0 := blk_frozen BK295.out 0
    have hfz72_1 := blk_frozen BK295.out 1
    have hfz72_2 := blk_frozen BK295.out 2
    have hfz72_3 := blk_frozen BK295.out 3
    try go_wp2
    go_ret
    exact ⟨by first | rfl | (simp [errW_none, errW_some] <;> rfl) | (simp [*, errW_none, errW_some] <;> rfl), by repeat (first | (with_reducible first | exact HB.out | apply below_alloc | apply pw_below_drewN | apply below_drew1 | refine below_set ?_ GE294.out | refine below_set ?_ GE295.out) | exact HB.out)⟩
def flo_Kind.f (a0 : Int) : Option (Int) := (flo_kind.f a0).bind fun t305 => (some t305)
set_option maxHeartbeats 8000000 in
set_option maxRecDepth 100000 in
theorem flo_Kind.calls (a0 : Int) (r : Int) (w : World) (h : flo_Kind.f a0 = some r) :
    Calls Tryd.prog 21 #[.int .u64 a0] w fun e w' => e = .returned (.int .i64 r) ∧ Drawn0 w w' := by
  have H : ((flo_kind.f a0).bind fun t305 => (some t305)) = some r := h
  clear h
  replace H := Option.bind_eq_some_iff.mp H
  obtain ⟨t305, A20, H⟩ := H
  replace H : (some t305) = some r := H
  have A2 := Aside0.mk A20
  clear A20
  obtain rfl := Option.some.inj H
  go_enter Tryd.func21, Tryd.ntmps21
  go_wp2_with (first | ((with_reducible refine gate_callee (f := 31) rfl ?_); refine goesL_ (some 4) rfl rfl Tryd.func31 (by kernel_rfl) rfl #[.int .u64 a0] rfl (by (try simp only [List.map_toArray, List.map_cons, List.map_nil]); first | done | rfl | (simp only [List.length_drop, List.length_take]; rfl)) ?_; (with_reducible refine (flo_kind.calls a0 t305 _ A2.out).mono ?_); rintro e w' ⟨rfl, ⟨nd, rfl⟩⟩; refine ⟨_, rfl, ?_⟩))
  go_ret
  exact ⟨by first | rfl | (simp; done) | (simp [*]; done), by repeat (first | exact Drawn0.refl _ | apply Drawn0.step)⟩
end Go.Proofs.YtongfmeediokmaaDoor.Pr
end
section
namespace Go.Proofs.YtongfmeediokmaaDoor.Pr
open Go.RowKit Go.Proofs.YtongfmeediokmaaDoorW.PrintWords Go.Proofs.YtongfmeediokmaaDoorW.PrintLast Go.Proofs.YtongfmeediokmaaDoorW.PrintMore
attribute [local go_sem] max2_int min2_int max_two min_two max_three min_three max_four min_four
def value_Key.j0 : Nat → Bool → Int → Int → ByteArray → Int → Option (Int × Int × ByteArray × Int × Bool)
  | 0, _, _, _, _, _ => none
  | k + 1, x6, x307000, x307001, x307002, x307003 => if x6 = true then (some (0, 0, (⟨#[]⟩ : ByteArray), 0, false)) else (if x307000 = 3 then ((flo_Kind.f x307001).bind fun t313 => (if t313 = 0 then (some (x307000, 0, x307002, x307003, true)) else (some (x307000, x307001, x307002, x307003, true)))) else (some (x307000, x307001, x307002, x307003, true)))
def value_Key.f (k : Nat) (a0_0 : Int) (a0_1 : Int) (a0_2 : ByteArray) (a0_3 : Int) : Option (Int × Int × ByteArray × Int × Bool) := (value_normal.f k a0_0 a0_1 a0_2 a0_3).bind fun bt308 => (if bt308.1 = 0 then (value_Key.j0 k true bt308.1 bt308.2.1 bt308.2.2.1 bt308.2.2.2) else (if bt308.1 = 3 then ((flo_Kind.f bt308.2.1).bind fun t312 => (value_Key.j0 k (t312 == 4) bt308.1 bt308.2.1 bt308.2.2.1 bt308.2.2.2)) else (value_Key.j0 k false bt308.1 bt308.2.1 bt308.2.2.1 bt308.2.2.2)))
set_option maxHeartbeats 8000000 in
set_option maxRecDepth 100000 in
theorem value_Key.calls (k : Nat) (a0_0 : Int) (a0_1 : Int) (a0_2 : ByteArray) (a0_3 : Int) (r1 : Int) (r2 : Int) (r3 : ByteArray) (r4 : Int) (r5 : Bool) (w : World) (h : value_Key.f k a0_0 a0_1 a0_2 a0_3 = some (r1, r2, r3, r4, r5)) :
    Calls Tryd.prog 9 #[.agg #[.int .i64 a0_0, .int .u64 a0_1, .string a0_2, .int .i64 a0_3]] w fun e w' => e = .returned (.tuple #[.agg #[.int .i64 r1, .int .u64 r2, .string r3, .int .i64 r4], .bool r5]) ∧ Below w.heap.size w w' := by
  have hu25 := Tryd.underlying25
  have HB := Aside0.mk (Below.refl w.heap.size w)
  have H : ((value_normal.f k a0_0 a0_1 a0_2 a0_3).bind fun bt308 => (if bt308.1 = 0 then (value_Key.j0 k true bt308.1 bt308.2.1 bt308.2.2.1 bt308.2.2.2) else (if bt308.1 = 3 then ((flo_Kind.f bt308.2.1).bind fun t312 => (value_Key.j0 k (t312 == 4) bt308.1 bt308.2.1 bt308.2.2.1 bt308.2.2.2)) else (value_Key.j0 k false bt308.1 bt308.2.1 bt308.2.2.1 bt308.2.2.2)))) = some (r1, r2, r3, r4, r5) := h
  clear h
  replace H := Option.bind_eq_some_iff.mp H
  obtain ⟨⟨t308, t309, t310, t311⟩, A20, H⟩ := H
  replace H : (if t308 = 0 then (value_Key.j0 k true t308 t309 t310 t311) else (if t308 = 3 then ((flo_Kind.f t309).bind fun t312 => (value_Key.j0 k (t312 == 4) t308 t309 t310 t311)) else (value_Key.j0 k false t308 t309 t310 t311))) = some (r1, r2, r3, r4, r5) := H
  have A2 := Aside0.mk A20
  clear A20
  have HC3 := Aside0.mk H
  clear H
  go_enter Tryd.func9, Tryd.ntmps9
  go_upto_region 2 with (first | ((with_reducible refine gate_dst (N := 1) rfl ?_); refine box_event ?hg (N := 1) ?hd (cs := #[.int .i64 a0_0, .int .u64 a0_1, .string a0_2, .int .i64 a0_3]) (t := 25) ?hr ?_; (case hd => rfl); (case hg => rfl); (case hr => first | (go_simp; done) | (go_simp; rfl)); intro gb306 hg w4 hbox hb; have n0_ := Aside0.mk (below_step (by repeat (first | (with_reducible first | exact HB.out | apply below_alloc | apply pw_below_drewN | apply below_drew1) | exact HB.out)) hb); have n1_ := Aside0.mk (hbox); have n2_ := Aside0.mk ((by rw [hg]; exact (below_size (by repeat (first | (with_reducible first | exact HB.out | apply below_alloc | apply pw_below_drewN | apply below_drew1) | exact HB.out))) : w.heap.size ≤ gb306)); have n3_ := Aside0.mk ((by rw [hg]; exact (below_size (by repeat (first | (with_reducible first | exact HB.out | apply below_alloc | apply pw_below_drewN | apply below_drew1) | exact HB.out))) : w.heap.size ≤ gb306)); clear HB; have HB := n0_; have BK306 := n1_; have GW306 := n2_; have GE306 := n3_; clear n0_ n1_ n2_ n3_; clear hb hbox hg) | ((with_reducible refine gate_dst (N := 2) rfl ?_); refine box_event ?hg (N := 2) ?hd (cs := #[.int .i64 0, .int .u64 0, .string (⟨#[]⟩ : ByteArray), .int .i64 0]) (t := 25) ?hr ?_; (case hd => rfl); (case hg => rfl); (case hr => first | (go_simp; done) | (go_simp; rfl)); intro gb307 hg w5 hbox hb; have n0_ := Aside0.mk (blk_below (g := gb306) (o := .cells #[.int .i64 a0_0, .int .u64 a0_1, .string a0_2, .int .i64 a0_3] 25 (0, 0)) (by (with_reducible repeat (first | refine blk_drewN ?_ _ | refine blk_drew ?_ | refine blk_alloc ?_ _)); exact BK306.out) hb); have n1_ := Aside0.mk (below_step (by repeat (first | (with_reducible first | exact HB.out | apply below_alloc | apply pw_below_drewN | apply below_drew1 | refine below_set ?_ GE306.out) | exact HB.out)) hb); have n2_ := Aside0.mk (hbox); have n3_ := Aside0.mk ((by rw [hg]; exact (below_size (by repeat (first | (with_reducible first | exact HB.out | apply below_alloc | apply pw_below_drewN | apply below_drew1 | refine below_set ?_ GE306.out) | exact HB.out))) : w.heap.size ≤ gb307)); have n4_ := Aside0.mk ((by rw [hg]; exact (below_size (by repeat (first | (with_reducible first | exact HB.out | apply below_alloc | apply pw_below_drewN | apply below_drew1 | refine below_set ?_ GE306.out) | exact HB.out))) : w.heap.size ≤ gb307)); have n5_ := Aside0.mk ((by rw [hg]; exact Nat.ne_of_lt (blk_lt (g := gb306) (o := .cells #[.int .i64 a0_0, .int .u64 a0_1, .string a0_2, .int .i64 a0_3] 25 (0, 0)) (by (with_reducible repeat (first | refine blk_drewN ?_ _ | refine blk_drew ?_ | refine blk_alloc ?_ _)); exact BK306.out)) : gb306 ≠ gb307)); have n6_ := Aside0.mk ((by rw [hg]; exact Nat.ne_of_gt (blk_lt (g := gb306) (o := .cells #[.int .i64 a0_0, .int .u64 a0_1, .string a0_2, .int .i64 a0_3] 25 (0, 0)) (by (with_reducible repeat (first | refine blk_drewN ?_ _ | refine blk_drew ?_ | refine blk_alloc ?_ _)); exact BK306.out)) : gb307 ≠ gb306)); clear BK306; clear HB; have BK306 := n0_; have HB := n1_; have BK307 := n2_; have GW307 := n3_; have GE307 := n4_; have NB306_307 := n5_; have NB307_306 := n6_; clear n0_ n1_ n2_ n3_ n4_ n5_ n6_; clear hb hbox hg; have hnb6 := NB306_307.out; have hnc6 := NB307_306.out; have hcz7_0 : w5.cell? ⟨gb306, 0, none⟩ = some (.int .i64 a0_0) := (blk_cell BK306.out 0).trans rfl; have hcz7_1 : w5.cell? ⟨gb306, 1, none⟩ = some (.int .u64 a0_1) := (blk_cell BK306.out 1).trans rfl; have hcz7_2 : w5.cell? ⟨gb306, 2, none⟩ = some (.string a0_2) := (blk_cell BK306.out 2).trans rfl; have hcz7_3 : w5.cell? ⟨gb306, 3, none⟩ = some (.int .i64 a0_3) := (blk_cell BK306.out 3).trans rfl; have hfz7_0 := blk_frozen BK306.out 0; have hfz7_1 := blk_frozen BK306.out 1; have hfz7_2 := blk_frozen BK306.out 2; have hfz7_3 := blk_frozen BK306.out 3) | ((with_reducible refine gate_callee (f := 14) rfl ?_); refine goesL_ (some 5) rfl rfl Tryd.func14 (by kernel_rfl) rfl #[.agg #[.int .i64 a0_0, .int .u64 a0_1, .string a0_2, .int .i64 a0_3]] rfl (by (try simp only [List.map_toArray, List.map_cons, List.map_nil]); first | done | rfl | (simp only [List.length_drop, List.length_take]; rfl)) ?_; (with_reducible refine (value_normal.calls k a0_0 a0_1 a0_2 a0_3 t308 t309 t310 t311 _ A2.out).mono ?_); rintro e w8 ⟨rfl, hb⟩; refine ⟨_, rfl, ?_⟩; have n0_ := Aside0.mk (blk_below (g := gb306) (o := .cells #[.int .i64 a0_0, .int .u64 a0_1, .string a0_2, .int .i64 a0_3] 25 (0, 0)) (by (with_reducible repeat (first | refine blk_drewN ?_ _ | refine blk_drew ?_ | refine blk_alloc ?_ _)); exact BK306.out) hb); have n1_ := Aside0.mk (blk_below (g := gb307) (o := .cells #[.int .i64 0, .int .u64 0, .string (⟨#[]⟩ : ByteArray), .int .i64 0] 25 (0, 0)) (by (with_reducible repeat (first | refine blk_drewN ?_ _ | refine blk_drew ?_ | refine blk_alloc ?_ _)); exact BK307.out) hb); have n2_ := Aside0.mk (below_step (by repeat (first | (with_reducible first | exact HB.out | apply below_alloc | apply pw_below_drewN | apply below_drew1 | refine below_set ?_ GE306.out | refine below_set ?_ GE307.out) | exact HB.out)) hb); clear BK306; clear BK307; clear HB; have BK306 := n0_; have BK307 := n1_; have HB := n2_; clear n0_ n1_ n2_; (try clear hb); (try clear hb2); (try clear hk); (try clear hi); have hcz9_0 : w8.cell? ⟨gb306, 0, none⟩ = some (.int .i64 a0_0) := (blk_cell BK306.out 0).trans rfl; have hcz9_1 : w8.cell? ⟨gb306, 1, none⟩ = some (.int .u64 a0_1) := (blk_cell BK306.out 1).trans rfl; have hcz9_2 : w8.cell? ⟨gb306, 2, none⟩ = some (.string a0_2) := (blk_cell BK306.out 2).trans rfl; have hcz9_3 : w8.cell? ⟨gb306, 3, none⟩ = some (.int .i64 a0_3) := (blk_cell BK306.out 3).trans rfl; have hfz9_0 := blk_frozen BK306.out 0; have hfz9_1 := blk_frozen BK306.out 1; have hfz9_2 := blk_frozen BK306.out 2; have hfz9_3 := blk_frozen BK306.out 3))
  (try simp only [Act.put, List.setIfInBounds_toArray, List.set_cons_zero, List.set_cons_succ])
  go_cut [6] (fun v6 wc => ∃ (kq : Nat) (x6_2 : Bool), v6 = .bool x6_2 ∧ Aside0 (value_Key.j0 kq x6_2 t308 t309 t310 t311 = some (r1, r2, r3, r4, r5)) ∧ Aside0 (kq ≤ k) ∧ Aside0 (wc.heap[gb306]? = some (.cells #[.int .i64 t308, .int .u64 t309, .string t310, .int .i64 t311] 25 (0, 0))) ∧ Aside0 (wc.heap[gb307]? = some (.cells #[.int .i64 0, .int .u64 0, .string (⟨#[]⟩ : ByteArray), .int .i64 0] 25 (0, 0))) ∧ Aside0 (Below w.heap.size w wc))
  case first =>
    have H := HC3.out
    clear HC3
    by_cases c10 : t308 = 0
    · rw [if_pos c10] at H
      have c10b0 : (t308 == 0) = true := beq_iff_eq.mpr c10
      have c10b1 : (t308 != 0) = false := bne_eq_false_iff_eq.mpr c10
      clear c10
      (first | rw [c10b0] | (simp only [i64_w, i32_w]; rw [c10b0]) | rw [c10b1] | (simp only [i64_w, i32_w]; rw [c10b1]) | skip)
      have H' := Aside0.mk H
      clear H
      have hnb11 := NB306_307.out
      have hnc11 := NB307_306.out
      have hcz12_0 : w8.cell? ⟨gb306, 0, none⟩ = some (.int .i64 a0_0) := (blk_cell BK306.out 0).trans rfl
      have hcz12_1 : w8.cell? ⟨gb306, 1, none⟩ = some (.int .u64 a0_1) := (blk_cell BK306.out 1).trans rfl
      have hcz12_2 : w8.cell? ⟨gb306, 2, none⟩ = some (.string a0_2) := (blk_cell BK306.out 2).trans rfl
      have hcz12_3 : w8.cell? ⟨gb306, 3, none⟩ = some (.int .i64 a0_3) := (blk_cell BK306.out 3).trans rfl
      have hfz12_0 := blk_frozen BK306.out 0
      have hfz12_1 := blk_frozen BK306.out 1
      have hfz12_2 := blk_frozen BK306.out 2
      have hfz12_3 := blk_frozen BK306.out 3
      go_wp2
      go_meet
      case rel => exact ⟨_, (true), (by first | rfl | (simp; done) | (simp [*]; done)), H', ⟨by first | omega | exact Nat.le_refl _⟩, ⟨by (with_reducible repeat (first | refine blk_drewN ?_ _ | refine blk_drew ?_ | refine blk_alloc ?_ _)); refine blk_put (cs := #[.int .i64 t308, .int .u64 t309, .string t310, .int .i64 a0_3]) ?_ 3 _ rfl; (with_reducible repeat (first | refine blk_drewN ?_ _ | refine blk_drew ?_ | refine blk_alloc ?_ _)); refine blk_put (cs := #[.int .i64 t308, .int .u64 t309, .string a0_2, .int .i64 a0_3]) ?_ 2 _ rfl; (with_reducible repeat (first | refine blk_drewN ?_ _ | refine blk_drew ?_ | refine blk_alloc ?_ _)); refine blk_put (cs := #[.int .i64 t308, .int .u64 a0_1, .string a0_2, .int .i64 a0_3]) ?_ 1 _ rfl; (with_reducible repeat (first | refine blk_drewN ?_ _ | refine blk_drew ?_ | refine blk_alloc ?_ _)); refine blk_put (cs := #[.int .i64 a0_0, .int .u64 a0_1, .string a0_2, .int .i64 a0_3]) ?_ 0 _ rfl; (with_reducible repeat (first | refine blk_drewN ?_ _ | refine blk_drew ?_ | refine blk_alloc ?_ _)); exact BK306.out⟩, ⟨by (with_reducible repeat (first | refine blk_drewN ?_ _ | refine blk_drew ?_ | refine blk_alloc ?_ _)); refine blk_far ?_ NB307_306.out _; (with_reducible repeat (first | refine blk_drewN ?_ _ | refine blk_drew ?_ | refine blk_alloc ?_ _)); refine blk_far ?_ NB307_306.out _; (with_reducible repeat (first | refine blk_drewN ?_ _ | refine blk_drew ?_ | refine blk_alloc ?_ _)); refine blk_far ?_ NB307_306.out _; (with_reducible repeat (first | refine blk_drewN ?_ _ | refine blk_drew ?_ | refine blk_alloc ?_ _)); refine blk_far ?_ NB307_306.out _; (with_reducible repeat (first | refine blk_drewN ?_ _ | refine blk_drew ?_ | refine blk_alloc ?_ _)); exact BK307.out⟩, ⟨by repeat (first | (with_reducible first | exact HB.out | apply below_alloc | apply pw_below_drewN | apply below_drew1 | refine below_set ?_ GE306.out | refine below_set ?_ GE307.out) | exact HB.out)⟩⟩
    · rw [if_neg c10] at H
      have c10b0 : (t308 == 0) = false := beq_eq_false_iff_ne.mpr c10
      have c10b1 : (t308 != 0) = true := bne_iff_ne.mpr c10
      (first | rw [c10b0] | (simp only [i64_w, i32_w]; rw [c10b0]) | rw [c10b1] | (simp only [i64_w, i32_w]; rw [c10b1]) | skip)
      by_cases c13 : t308 = 3
      · rw [if_pos c13] at H
        have c13b0 : (t308 == 3) = true := beq_iff_eq.mpr c13
        have c13b1 : (t308 != 3) = false := bne_eq_false_iff_eq.mpr c13
        clear c13
        replace H := Option.bind_eq_some_iff.mp H
        obtain ⟨t312, A140, H⟩ := H
        replace H : (value_Key.j0 k (t312 == 4) t308 t309 t310 t311) = some (r1, r2, r3, r4, r5) := H
        have A14 := Aside0.mk A140
        clear A140
        have H' := Aside0.mk H
        clear H
        have hnb15 := NB306_307.out
        have hnc15 := NB307_306.out
        have hcz16_0 : w8.cell? ⟨gb306, 0, none⟩ = some (.int .i64 a0_0) := (blk_cell BK306.out 0).trans rfl
        have hcz16_1 : w8.cell? ⟨gb306, 1, none⟩ = some (.int .u64 a0_1) := (blk_cell BK306.out 1).trans rfl
        have hcz16_2 : w8.cell? ⟨gb306, 2, none⟩ = some (.string a0_2) := (blk_cell BK306.out 2).trans rfl
        have hcz16_3 : w8.cell? ⟨gb306, 3, none⟩ = some (.int .i64 a0_3) := (blk_cell BK306.out 3).trans rfl
        have hfz16_0 := blk_frozen BK306.out 0
        have hfz16_1 := blk_frozen BK306.out 1
        have hfz16_2 := blk_frozen BK306.out 2
        have hfz16_3 := blk_frozen BK306.out 3
        go_wp2_with (first | (go_at_call 21; (with_reducible refine (flo_Kind.calls t309 t312 _ A14.out).mono ?_); rintro e w' ⟨rfl, ⟨nd, rfl⟩⟩))
        go_meet
        case rel => exact ⟨_, ((t312 == 4)), (by first | rfl | (simp; done) | (simp [*]; done)), H', ⟨by first | omega | exact Nat.le_refl _⟩, ⟨by (with_reducible repeat (first | refine blk_drewN ?_ _ | refine blk_drew ?_ | refine blk_alloc ?_ _)); refine blk_put (cs := #[.int .i64 t308, .int .u64 t309, .string t310, .int .i64 a0_3]) ?_ 3 _ rfl; (with_reducible repeat (first | refine blk_drewN ?_ _ | refine blk_drew ?_ | refine blk_alloc ?_ _)); refine blk_put (cs := #[.int .i64 t308, .int .u64 t309, .string a0_2, .int .i64 a0_3]) ?_ 2 _ rfl; (with_reducible repeat (first | refine blk_drewN ?_ _ | refine blk_drew ?_ | refine blk_alloc ?_ _)); refine blk_put (cs := #[.int .i64 t308, .int .u64 a0_1, .string a0_2, .int .i64 a0_3]) ?_ 1 _ rfl; (with_reducible repeat (first | refine blk_drewN ?_ _ | refine blk_drew ?_ | refine blk_alloc ?_ _)); refine blk_put (cs := #[.int .i64 a0_0, .int .u64 a0_1, .string a0_2, .int .i64 a0_3]) ?_ 0 _ rfl; (with_reducible repeat (first | refine blk_drewN ?_ _ | refine blk_drew ?_ | refine blk_alloc ?_ _)); exact BK306.out⟩, ⟨by (with_reducible repeat (first | refine blk_drewN ?_ _ | refine blk_drew ?_ | refine blk_alloc ?_ _)); refine blk_far ?_ NB307_306.out _; (with_reducible repeat (first | refine blk_drewN ?_ _ | refine blk_drew ?_ | refine blk_alloc ?_ _)); refine blk_far ?_ NB307_306.out _; (with_reducible repeat (first | refine blk_drewN ?_ _ | refine blk_drew ?_ | refine blk_alloc ?_ _)); refine blk_far ?_ NB307_306.out _; (with_reducible repeat (first | refine blk_drewN ?_ _ | refine blk_drew ?_ | refine blk_alloc ?_ _)); refine blk_far ?_ NB307_306.out _; (with_reducible repeat (first | refine blk_drewN ?_ _ | refine blk_drew ?_ | refine blk_alloc ?_ _)); exact BK307.out⟩, ⟨by repeat (first | (with_reducible first | exact HB.out | apply below_alloc | apply pw_below_drewN | apply below_drew1 | refine below_set ?_ GE306.out | refine below_set ?_ GE307.out) | exact HB.out)⟩⟩
      · rw [if_neg c13] at H
        have c13b0 : (t308 == 3) = false := beq_eq_false_iff_ne.mpr c13
        have c13b1 : (t308 != 3) = true := bne_iff_ne.mpr c13
        have H' := Aside0.mk H
        clear H
        have hnb17 := NB306_307.out
        have hnc17 := NB307_306.out
        have hcz18_0 : w8.cell? ⟨gb306, 0, none⟩ = some (.int .i64 a0_0) := (blk_cell BK306.out 0).trans rfl
        have hcz18_1 : w8.cell? ⟨gb306, 1, none⟩ = some (.int .u64 a0_1) := (blk_cell BK306.out 1).trans rfl
        have hcz18_2 : w8.cell? ⟨gb306, 2, none⟩ = some (.string a0_2) := (blk_cell BK306.out 2).trans rfl
        have hcz18_3 : w8.cell? ⟨gb306, 3, none⟩ = some (.int .i64 a0_3) := (blk_cell BK306.out 3).trans rfl
        have hfz18_0 := blk_frozen BK306.out 0
        have hfz18_1 := blk_frozen BK306.out 1
        have hfz18_2 := blk_frozen BK306.out 2
        have hfz18_3 := blk_frozen BK306.out 3
        go_wp2
        go_meet
        case rel => exact ⟨_, (false), (by first | rfl | (simp; done) | (simp [*]; done)), H', ⟨by first | omega | exact Nat.le_refl _⟩, ⟨by (with_reducible repeat (first | refine blk_drewN ?_ _ | refine blk_drew ?_ | refine blk_alloc ?_ _)); refine blk_put (cs := #[.int .i64 t308, .int .u64 t309, .string t310, .int .i64 a0_3]) ?_ 3 _ rfl; (with_reducible repeat (first | refine blk_drewN ?_ _ | refine blk_drew ?_ | refine blk_alloc ?_ _)); refine blk_put (cs := #[.int .i64 t308, .int .u64 t309, .string a0_2, .int .i64 a0_3]) ?_ 2 _ rfl; (with_reducible repeat (first | refine blk_drewN ?_ _ | refine blk_drew ?_ | refine blk_alloc ?_ _)); refine blk_put (cs := #[.int .i64 t308, .int .u64 a0_1, .string a0_2, .int .i64 a0_3]) ?_ 1 _ rfl; (with_reducible repeat (first | refine blk_drewN ?_ _ | refine blk_drew ?_ | refine blk_alloc ?_ _)); refine blk_put (cs := #[.int .i64 a0_0, .int .u64 a0_1, .string a0_2, .int .i64 a0_3]) ?_ 0 _ rfl; (with_reducible repeat (first | refine blk_drewN ?_ _ | refine blk_drew ?_ | refine blk_alloc ?_ _)); exact BK306.out⟩, ⟨by (with_reducible repeat (first | refine blk_drewN ?_ _ | refine blk_drew ?_ | refine blk_alloc ?_ _)); refine blk_far ?_ NB307_306.out _; (with_reducible repeat (first | refine blk_drewN ?_ _ | refine blk_drew ?_ | refine blk_alloc ?_ _)); refine blk_far ?_ NB307_306.out _; (with_reducible repeat (first | refine blk_drewN ?_ _ | refine blk_drew ?_ | refine blk_alloc ?_ _)); refine blk_far ?_ NB307_306.out _; (with_reducible repeat (first | refine blk_drewN ?_ _ | refine blk_drew ?_ | refine blk_alloc ?_ _)); refine blk_far ?_ NB307_306.out _; (with_reducible repeat (first | refine blk_drewN ?_ _ | refine blk_drew ?_ | refine blk_alloc ?_ _)); exact BK307.out⟩, ⟨by repeat (first | (with_reducible first | exact HB.out | apply below_alloc | apply pw_below_drewN | apply below_drew1 | refine below_set ?_ GE306.out | refine below_set ?_ GE307.out) | exact HB.out)⟩⟩
  case rest =>
    clear HC3
    try clear c1
    try clear p2
    try clear c6
    try clear c9
    try clear c10
    try clear c10b0
    try clear c10b1
    try clear c11
    try clear c13
    try clear c13b0
    try clear c13b1
    try clear c14
    try clear c15
    try clear c17
    try clear hcz12_0
    try clear hcz12_1
    try clear hcz12_2
    try clear hcz12_3
    try clear hcz16_0
    try clear hcz16_1
    try clear hcz16_2
    try clear hcz16_3
    try clear hcz18_0
    try clear hcz18_1
    try clear hcz18_2
    try clear hcz18_3
    try clear hcz7_0
    try clear hcz7_1
    try clear hcz7_2
    try clear hcz7_3
    try clear hcz9_0
    try clear hcz9_1
    try clear hcz9_2
    try clear hcz9_3
    try clear hfz12_0
    try clear hfz12_1
    try clear hfz12_2
    try clear hfz12_3
    try clear hfz16_0
    try clear hfz16_1
    try clear hfz16_2
    try clear hfz16_3
    try clear hfz18_0
    try clear hfz18_1
    try clear hfz18_2
    try clear hfz18_3
    try clear hfz7_0
    try clear hfz7_1
    try clear hfz7_2
    try clear hfz7_3
    try clear hfz9_0
    try clear hfz9_1
    try clear hfz9_2
    try clear hfz9_3
    obtain ⟨kq, x6_2, rfl, HA, HJ2, BK306, BK307, HB⟩ := hcut
    cases kq with
    | zero => exact absurd HA.out (by simp [value_Key.j0])
    | succ kj2 =>
      have H := HA.out
      clear HA
      simp only [value_Key.j0] at H
      by_cases c19 : x6_2 = true
      · subst c19
        have H1 : (some (0, 0, (⟨#[]⟩ : ByteArray), 0, false)) = some (r1, r2, r3, r4, r5) := by rw [if_pos rfl] at H; exact H
        clear H
        have H := H1
        clear H1
        simp only [Option.some.injEq, Prod.mk.injEq] at H
        obtain ⟨rfl, rfl, rfl, rfl, rfl⟩ := H
        have hnb20 := NB307_306.out
        have hnc20 := NB306_307.out
        have hcz21_0 : wc.cell? ⟨gb307, 0, none⟩ = some (.int .i64 0) := (blk_cell BK307.out 0).trans rfl
        have hcz21_1 : wc.cell? ⟨gb307, 1, none⟩ = some (.int .u64 0) := (blk_cell BK307.out 1).trans rfl
        have hcz21_2 : wc.cell? ⟨gb307, 2, none⟩ = some (.string (⟨#[]⟩ : ByteArray)) := (blk_cell BK307.out 2).trans rfl
        have hcz21_3 : wc.cell? ⟨gb307, 3, none⟩ = some (.int .i64 0) := (blk_cell BK307.out 3).trans rfl
        have hfz21_0 := blk_frozen BK307.out 0
        have hfz21_1 := blk_frozen BK307.out 1
        have hfz21_2 := blk_frozen BK307.out 2
        have hfz21_3 := blk_frozen BK307.out 3
        go_wp2
        refine bodyPost_ret (results_ct rfl _ _ gb307 25 #[.int .i64 0, .int .u64 0, .string (⟨#[]⟩ : ByteArray), .int .i64 0] (0, 0) _ rfl (by (with_reducible repeat (first | refine blk_drewN ?_ _ | refine blk_drew ?_ | refine blk_alloc ?_ _)); refine blk_put (cs := #[.int .i64 0, .int .u64 0, .string (⟨#[]⟩ : ByteArray), .int .i64 0]) ?_ 3 _ rfl; (with_reducible repeat (first | refine blk_drewN ?_ _ | refine blk_drew ?_ | refine blk_alloc ?_ _)); refine blk_put (cs := #[.int .i64 0, .int .u64 0, .string (⟨#[]⟩ : ByteArray), .int .i64 0]) ?_ 2 _ rfl; (with_reducible repeat (first | refine blk_drewN ?_ _ | refine blk_drew ?_ | refine blk_alloc ?_ _)); refine blk_put (cs := #[.int .i64 0, .int .u64 0, .string (⟨#[]⟩ : ByteArray), .int .i64 0]) ?_ 1 _ rfl; (with_reducible repeat (first | refine blk_drewN ?_ _ | refine blk_drew ?_ | refine blk_alloc ?_ _)); refine blk_put (cs := #[.int .i64 0, .int .u64 0, .string (⟨#[]⟩ : ByteArray), .int .i64 0]) ?_ 0 _ rfl; (with_reducible repeat (first | refine blk_drewN ?_ _ | refine blk_drew ?_ | refine blk_alloc ?_ _)); exact BK307.out) Tryd.underlying25 rfl (by kernel_rfl)) rfl ?_
        exact ⟨by first | rfl | (simp [errW_none, errW_some] <;> rfl) | (simp [*, errW_none, errW_some] <;> rfl), by repeat (first | (with_reducible first | exact HB.out | apply below_alloc | apply pw_below_drewN | apply below_drew1 | refine below_set ?_ GE306.out | refine below_set ?_ GE307.out) | exact HB.out)⟩
      · replace c19 := Bool.eq_false_iff.mpr c19
        subst c19
        have H1 : (if t308 = 3 then ((flo_Kind.f t309).bind fun t313 => (if t313 = 0 then (some (t308, 0, t310, t311, true)) else (some (t308, t309, t310, t311, true)))) else (some (t308, t309, t310, t311, true))) = some (r1, r2, r3, r4, r5) := by rw [if_neg (show ¬ (false = true) by decide)] at H; exact H
        clear H
        have H := H1
        clear H1
        by_cases c22 : t308 = 3
        · rw [if_pos c22] at H
          have c22b0 : (t308 == 3) = true := beq_iff_eq.mpr c22
          have c22b1 : (t308 != 3) = false := bne_eq_false_iff_eq.mpr c22
          clear c22
          replace H := Option.bind_eq_some_iff.mp H
          obtain ⟨t313, A230, H⟩ := H
          replace H : (if t313 = 0 then (some (t308, 0, t310, t311, true)) else (some (t308, t309, t310, t311, true))) = some (r1, r2, r3, r4, r5) := H
          have A23 := Aside0.mk A230
          clear A230
          by_cases c24 : t313 = 0
          · rw [if_pos c24] at H
            have c24b0 : (t313 == 0) = true := beq_iff_eq.mpr c24
            have c24b1 : (t313 != 0) = false := bne_eq_false_iff_eq.mpr c24
            clear c24
            simp only [Option.some.injEq, Prod.mk.injEq] at H
            obtain ⟨rfl, rfl, rfl, rfl, rfl⟩ := H
            have hnb25 := NB306_307.out
            have hnc25 := NB307_306.out
            have hcz26_0 : wc.cell? ⟨gb306, 0, none⟩ = some (.int .i64 t308) := (blk_cell BK306.out 0).trans rfl
            have hcz26_1 : wc.cell? ⟨gb306, 1, none⟩ = some (.int .u64 t309) := (blk_cell BK306.out 1).trans rfl
            have hcz26_2 : wc.cell? ⟨gb306, 2, none⟩ = some (.string t310) := (blk_cell BK306.out 2).trans rfl
            have hcz26_3 : wc.cell? ⟨gb306, 3, none⟩ = some (.int .i64 t311) := (blk_cell BK306.out 3).trans rfl
            have hfz26_0 := blk_frozen BK306.out 0
            have hfz26_1 := blk_frozen BK306.out 1
            have hfz26_2 := blk_frozen BK306.out 2
            have hfz26_3 := blk_frozen BK306.out 3
            go_wp2_with (first | (go_at_call 21; (with_reducible refine (flo_Kind.calls t309 t313 _ A23.out).mono ?_); rintro e w' ⟨rfl, ⟨nd, rfl⟩⟩; (try (rw [drewN_self wc]; generalize hq_ : World.drewN wc _ = wc; have n0_ : Aside0 (wc.heap[gb306]? = some (.cells #[.int .i64 t308, .int .u64 t309, .string t310, .int .i64 t311] 25 (0, 0))) := ⟨by rw [← hq_]; exact (by (with_reducible repeat (first | refine blk_drewN ?_ _ | refine blk_drew ?_ | refine blk_alloc ?_ _)); exact BK306.out)⟩; have n1_ : Aside0 (wc.heap[gb307]? = some (.cells #[.int .i64 0, .int .u64 0, .string (⟨#[]⟩ : ByteArray), .int .i64 0] 25 (0, 0))) := ⟨by rw [← hq_]; exact (by (with_reducible repeat (first | refine blk_drewN ?_ _ | refine blk_drew ?_ | refine blk_alloc ?_ _)); exact BK307.out)⟩; have n2_ : Aside0 (Below w.heap.size w wc) := ⟨by rw [← hq_]; exact (by repeat (first | (with_reducible first | exact HB.out | apply below_alloc | apply pw_below_drewN | apply below_drew1 | refine below_set ?_ GE306.out | refine below_set ?_ GE307.out) | exact HB.out))⟩; clear BK306 BK307 HB hq_; have BK306 := n0_; have BK307 := n1_; have HB := n2_; clear n0_ n1_ n2_)); have qz0_306_0 : wc.cell? ⟨gb306, 0, none⟩ = some (.int .i64 t308) := (blk_cell BK306.out 0).trans rfl; have qf0_306_0 := blk_frozen BK306.out 0; have qz0_306_1 : wc.cell? ⟨gb306, 1, none⟩ = some (.int .u64 t309) := (blk_cell BK306.out 1).trans rfl; have qf0_306_1 := blk_frozen BK306.out 1; have qz0_306_2 : wc.cell? ⟨gb306, 2, none⟩ = some (.string t310) := (blk_cell BK306.out 2).trans rfl; have qf0_306_2 := blk_frozen BK306.out 2; have qz0_306_3 : wc.cell? ⟨gb306, 3, none⟩ = some (.int .i64 t311) := (blk_cell BK306.out 3).trans rfl; have qf0_306_3 := blk_frozen BK306.out 3; have qz0_307_0 : wc.cell? ⟨gb307, 0, none⟩ = some (.int .i64 0) := (blk_cell BK307.out 0).trans rfl; have qf0_307_0 := blk_frozen BK307.out 0; have qz0_307_1 : wc.cell? ⟨gb307, 1, none⟩ = some (.int .u64 0) := (blk_cell BK307.out 1).trans rfl; have qf0_307_1 := blk_frozen BK307.out 1; have qz0_307_2 : wc.cell? ⟨gb307, 2, none⟩ = some (.string (⟨#[]⟩ : ByteArray)) := (blk_cell BK307.out 2).trans rfl; have qf0_307_2 := blk_frozen BK307.out 2; have qz0_307_3 : wc.cell? ⟨gb307, 3, none⟩ = some (.int .i64 0) := (blk_cell BK307.out 3).trans rfl; have qf0_307_3 := blk_frozen BK307.out 3; have hcz27_0 : wc.cell? ⟨gb307, 0, none⟩ = some (.int .i64 0) := (blk_cell BK307.out 0).trans rfl; have hcz27_1 : wc.cell? ⟨gb307, 1, none⟩ = some (.int .u64 0) := (blk_cell BK307.out 1).trans rfl; have hcz27_2 : wc.cell? ⟨gb307, 2, none⟩ = some (.string (⟨#[]⟩ : ByteArray)) := (blk_cell BK307.out 2).trans rfl; have hcz27_3 : wc.cell? ⟨gb307, 3, none⟩ = some (.int .i64 0) := (blk_cell BK307.out 3).trans rfl; have hfz27_0 := blk_frozen BK307.out 0; have hfz27_1 := blk_frozen BK307.out 1; have hfz27_2 := blk_frozen BK307.out 2; have hfz27_3 := blk_frozen BK307.out 3))
            refine bodyPost_ret (results_ct rfl _ _ gb307 25 #[.int .i64 t308, .int .u64 0, .string t310, .int .i64 t311] (0, 0) _ rfl (by (with_reducible repeat (first | refine blk_drewN ?_ _ | refine blk_drew ?_ | refine blk_alloc ?_ _)); refine blk_put (cs := #[.int .i64 t308, .int .u64 0, .string t310, .int .i64 0]) ?_ 3 _ rfl; (with_reducible repeat (first | refine blk_drewN ?_ _ | refine blk_drew ?_ | refine blk_alloc ?_ _)); refine blk_put (cs := #[.int .i64 t308, .int .u64 0, .string (⟨#[]⟩ : ByteArray), .int .i64 0]) ?_ 2 _ rfl; (with_reducible repeat (first | refine blk_drewN ?_ _ | refine blk_drew ?_ | refine blk_alloc ?_ _)); refine blk_put (cs := #[.int .i64 t308, .int .u64 0, .string (⟨#[]⟩ : ByteArray), .int .i64 0]) ?_ 1 _ rfl; (with_reducible repeat (first | refine blk_drewN ?_ _ | refine blk_drew ?_ | refine blk_alloc ?_ _)); refine blk_put (cs := #[.int .i64 0, .int .u64 0, .string (⟨#[]⟩ : ByteArray), .int .i64 0]) ?_ 0 _ rfl; (with_reducible repeat (first | refine blk_drewN ?_ _ | refine blk_drew ?_ | refine blk_alloc ?_ _)); refine blk_far ?_ NB307_306.out _; (with_reducible repeat (first | refine blk_drewN ?_ _ | refine blk_drew ?_ | refine blk_alloc ?_ _)); exact BK307.out) Tryd.underlying25 rfl (by kernel_rfl)) rfl ?_
            exact ⟨by first | rfl | (simp [errW_none, errW_some] <;> rfl) | (simp [*, errW_none, errW_some] <;> rfl), by repeat (first | (with_reducible first | exact HB.out | apply below_alloc | apply pw_below_drewN | apply below_drew1 | refine below_set ?_ GE306.out | refine below_set ?_ GE307.out) | exact HB.out)⟩
          · rw [if_neg c24] at H
            have c24b0 : (t313 == 0) = false := beq_eq_false_iff_ne.mpr c24
            have c24b1 : (t313 != 0) = true := bne_iff_ne.mpr c24
            simp only [Option.some.injEq, Prod.mk.injEq] at H
            obtain ⟨rfl, rfl, rfl, rfl, rfl⟩ := H
            have hnb28 := NB306_307.out
            have hnc28 := NB307_306.out
            have hcz29_0 : wc.cell? ⟨gb306, 0, none⟩ = some (.int .i64 t308) := (blk_cell BK306.out 0).trans rfl
            have hcz29_1 : wc.cell? ⟨gb306, 1, none⟩ = some (.int .u64 t309) := (blk_cell BK306.out 1).trans rfl
            have hcz29_2 : wc.cell? ⟨gb306, 2, none⟩ = some (.string t310) := (blk_cell BK306.out 2).trans rfl
            have hcz29_3 : wc.cell? ⟨gb306, 3, none⟩ = some (.int .i64 t311) := (blk_cell BK306.out 3).trans rfl
            have hfz29_0 := blk_frozen BK306.out 0
            have hfz29_1 := blk_frozen BK306.out 1
            have hfz29_2 := blk_frozen BK306.out 2
            have hfz29_3 := blk_frozen BK306.out 3
            go_wp2_with (first | (go_at_call 21; (with_reducible refine (flo_Kind.calls t309 t313 _ A23.out).mono ?_); rintro e w' ⟨rfl, ⟨nd, rfl⟩⟩; (try (rw [drewN_self wc]; generalize hq_ : World.drewN wc _ = wc; have n0_ : Aside0 (wc.heap[gb306]? = some (.cells #[.int .i64 t308, .int .u64 t309, .string t310, .int .i64 t311] 25 (0, 0))) := ⟨by rw [← hq_]; exact (by (with_reducible repeat (first | refine blk_drewN ?_ _ | refine blk_drew ?_ | refine blk_alloc ?_ _)); exact BK306.out)⟩; have n1_ : Aside0 (wc.heap[gb307]? = some (.cells #[.int .i64 0, .int .u64 0, .string (⟨#[]⟩ : ByteArray), .int .i64 0] 25 (0, 0))) := ⟨by rw [← hq_]; exact (by (with_reducible repeat (first | refine blk_drewN ?_ _ | refine blk_drew ?_ | refine blk_alloc ?_ _)); exact BK307.out)⟩; have n2_ : Aside0 (Below w.heap.size w wc) := ⟨by rw [← hq_]; exact (by repeat (first | (with_reducible first | exact HB.out | apply below_alloc | apply pw_below_drewN | apply below_drew1 | refine below_set ?_ GE306.out | refine below_set ?_ GE307.out) | exact HB.out))⟩; clear BK306 BK307 HB hq_; have BK306 := n0_; have BK307 := n1_; have HB := n2_; clear n0_ n1_ n2_)); have qz1_306_0 : wc.cell? ⟨gb306, 0, none⟩ = some (.int .i64 t308) := (blk_cell BK306.out 0).trans rfl; have qf1_306_0 := blk_frozen BK306.out 0; have qz1_306_1 : wc.cell? ⟨gb306, 1, none⟩ = some (.int .u64 t309) := (blk_cell BK306.out 1).trans rfl; have qf1_306_1 := blk_frozen BK306.out 1; have qz1_306_2 : wc.cell? ⟨gb306, 2, none⟩ = some (.string t310) := (blk_cell BK306.out 2).trans rfl; have qf1_306_2 := blk_frozen BK306.out 2; have qz1_306_3 : wc.cell? ⟨gb306, 3, none⟩ = some (.int .i64 t311) := (blk_cell BK306.out 3).trans rfl; have qf1_306_3 := blk_frozen BK306.out 3; have qz1_307_0 : wc.cell? ⟨gb307, 0, none⟩ = some (.int .i64 0) := (blk_cell BK307.out 0).trans rfl; have qf1_307_0 := blk_frozen BK307.out 0; have qz1_307_1 : wc.cell? ⟨gb307, 1, none⟩ = some (.int .u64 0) := (blk_cell BK307.out 1).trans rfl; have qf1_307_1 := blk_frozen BK307.out 1; have qz1_307_2 : wc.cell? ⟨gb307, 2, none⟩ = some (.string (⟨#[]⟩ : ByteArray)) := (blk_cell BK307.out 2).trans rfl; have qf1_307_2 := blk_frozen BK307.out 2; have qz1_307_3 : wc.cell? ⟨gb307, 3, none⟩ = some (.int .i64 0) := (blk_cell BK307.out 3).trans rfl; have qf1_307_3 := blk_frozen BK307.out 3; have hcz30_0 : wc.cell? ⟨gb307, 0, none⟩ = some (.int .i64 0) := (blk_cell BK307.out 0).trans rfl; have hcz30_1 : wc.cell? ⟨gb307, 1, none⟩ = some (.int .u64 0) := (blk_cell BK307.out 1).trans rfl; have hcz30_2 : wc.cell? ⟨gb307, 2, none⟩ = some (.string (⟨#[]⟩ : ByteArray)) := (blk_cell BK307.out 2).trans rfl; have hcz30_3 : wc.cell? ⟨gb307, 3, none⟩ = some (.int .i64 0) := (blk_cell BK307.out 3).trans rfl; have hfz30_0 := blk_frozen BK307.out 0; have hfz30_1 := blk_frozen BK307.out 1; have hfz30_2 := blk_frozen BK307.out 2; have hfz30_3 := blk_frozen BK307.out 3))
            refine bodyPost_ret (results_ct rfl _ _ gb307 25 #[.int .i64 t308, .int .u64 t309, .string t310, .int .i64 t311] (0, 0) _ rfl (by (with_reducible repeat (first | refine blk_drewN ?_ _ | refine blk_drew ?_ | refine blk_alloc ?_ _)); refine blk_put (cs := #[.int .i64 t308, .int .u64 t309, .string t310, .int .i64 0]) ?_ 3 _ rfl; (with_reducible repeat (first | refine blk_drewN ?_ _ | refine blk_drew ?_ | refine blk_alloc ?_ _)); refine blk_put (cs := #[.int .i64 t308, .int .u64 t309, .string (⟨#[]⟩ : ByteArray), .int .i64 0]) ?_ 2 _ rfl; (with_reducible repeat (first | refine blk_drewN ?_ _ | refine blk_drew ?_ | refine blk_alloc ?_ _)); refine blk_put (cs := #[.int .i64 t308, .int .u64 0, .string (⟨#[]⟩ : ByteArray), .int .i64 0]) ?_ 1 _ rfl; (with_reducible repeat (first | refine blk_drewN ?_ _ | refine blk_drew ?_ | refine blk_alloc ?_ _)); refine blk_put (cs := #[.int .i64 0, .int .u64 0, .string (⟨#[]⟩ : ByteArray), .int .i64 0]) ?_ 0 _ rfl; (with_reducible repeat (first | refine blk_drewN ?_ _ | refine blk_drew ?_ | refine blk_alloc ?_ _)); exact BK307.out) Tryd.underlying25 rfl (by kernel_rfl)) rfl ?_
            exact ⟨by first | rfl | (simp [errW_none, errW_some] <;> rfl) | (simp [*, errW_none, errW_some] <;> rfl), by repeat (first | (with_reducible first | exact HB.out | apply below_alloc | apply pw_below_drewN | apply below_drew1 | refine below_set ?_ GE306.out | refine below_set ?_ GE307.out) | exact HB.out)⟩
        · rw [if_neg c22] at H
          have c22b0 : (t308 == 3) = false := beq_eq_false_iff_ne.mpr c22
          have c22b1 : (t308 != 3) = true := bne_iff_ne.mpr c22
          simp only [Option.some.injEq, Prod.mk.injEq] at H
          obtain ⟨rfl, rfl, rfl, rfl, rfl⟩ := H
          have hnb31 := NB306_307.out
          have hnc31 := NB307_306.out
          have hcz32_0 : wc.cell? ⟨gb306, 0, none⟩ = some (.int .i64 t308) := (blk_cell BK306.out 0).trans rfl
          have hcz32_1 : wc.cell? ⟨gb306, 1, none⟩ = some (.int .u64 t309) := (blk_cell BK306.out 1).trans rfl
          have hcz32_2 : wc.cell? ⟨gb306, 2, none⟩ = some (.string t310) := (blk_cell BK306.out 2).trans rfl
          have hcz32_3 : wc.cell? ⟨gb306, 3, none⟩ = some (.int .i64 t311) := (blk_cell BK306.out 3).trans rfl
          have hfz32_0 := blk_frozen BK306.out 0
          have hfz32_1 := blk_frozen BK306.out 1
          have hfz32_2 := blk_frozen BK306.out 2
          have hfz32_3 := blk_frozen BK306.out 3
          have hcz33_0 : wc.cell? ⟨gb307, 0, none⟩ = some (.int .i64 0) := (blk_cell BK307.out 0).trans rfl
          have hcz33_1 : wc.cell? ⟨gb307, 1, none⟩ = some (.int .u64 0) := (blk_cell BK307.out 1).trans rfl
          have hcz33_2 : wc.cell? ⟨gb307, 2, none⟩ = some (.string (⟨#[]⟩ : ByteArray)) := (blk_cell BK307.out 2).trans rfl
          have hcz33_3 : wc.cell? ⟨gb307, 3, none⟩ = some (.int .i64 0) := (blk_cell BK307.out 3).trans rfl
          have hfz33_0 := blk_frozen BK307.out 0
          have hfz33_1 := blk_frozen BK307.out 1
          have hfz33_2 := blk_frozen BK307.out 2
          have hfz33_3 := blk_frozen BK307.out 3
          go_wp2
          refine bodyPost_ret (results_ct rfl _ _ gb307 25 #[.int .i64 t308, .int .u64 t309, .string t310, .int .i64 t311] (0, 0) _ rfl (by (with_reducible repeat (first | refine blk_drewN ?_ _ | refine blk_drew ?_ | refine blk_alloc ?_ _)); refine blk_put (cs := #[.int .i64 t308, .int .u64 t309, .string t310, .int .i64 0]) ?_ 3 _ rfl; (with_reducible repeat (first | refine blk_drewN ?_ _ | refine blk_drew ?_ | refine blk_alloc ?_ _)); refine blk_put (cs := #[.int .i64 t308, .int .u64 t309, .string (⟨#[]⟩ : ByteArray), .int .i64 0]) ?_ 2 _ rfl; (with_reducible repeat (first | refine blk_drewN ?_ _ | refine blk_drew ?_ | refine blk_alloc ?_ _)); refine blk_put (cs := #[.int .i64 t308, .int .u64 0, .string (⟨#[]⟩ : ByteArray), .int .i64 0]) ?_ 1 _ rfl; (with_reducible repeat (first | refine blk_drewN ?_ _ | refine blk_drew ?_ | refine blk_alloc ?_ _)); refine blk_put (cs := #[.int .i64 0, .int .u64 0, .string (⟨#[]⟩ : ByteArray), .int .i64 0]) ?_ 0 _ rfl; (with_reducible repeat (first | refine blk_drewN ?_ _ | refine blk_drew ?_ | refine blk_alloc ?_ _)); exact BK307.out) Tryd.underlying25 rfl (by kernel_rfl)) rfl ?_
          exact ⟨by first | rfl | (simp [errW_none, errW_some] <;> rfl) | (simp [*, errW_none, errW_some] <;> rfl), by repeat (first | (with_reducible first | exact HB.out | apply below_alloc | apply pw_below_drewN | apply below_drew1 | refine below_set ?_ GE306.out | refine below_set ?_ GE307.out) | exact HB.out)⟩
end Go.Proofs.YtongfmeediokmaaDoor.Pr
end
section
namespace Go.Proofs.YtongfmeediokmaaDoor.Pr
open Go.RowKit Go.Proofs.YtongfmeediokmaaDoorW.PrintWords Go.Proofs.YtongfmeediokmaaDoorW.PrintLast Go.Proofs.YtongfmeediokmaaDoorW.PrintMore
def namesL : List ByteArray := [⟨#[110, 105, 108]⟩, ⟨#[98, 111, 111, 108, 101, 97, 110]⟩, ⟨#[98, 111, 111, 108, 101, 97, 110]⟩, ⟨#[110, 117, 109, 98, 101, 114]⟩, ⟨#[115, 116, 114, 105, 110, 103]⟩, ⟨#[116, 97, 98, 108, 101]⟩, ⟨#[102, 117, 110, 99, 116, 105, 111, 110]⟩, ⟨#[116, 104, 114, 101, 97, 100]⟩, ⟨#[102, 117, 110, 99, 116, 105, 111, 110]⟩]
def NamesLaid (w : World) : Prop := ∀ i, i < 9 → w.cell? ⟨0, i, none⟩ = some (.string (namesL.getD i ⟨#[]⟩))
theorem globBelow {w w' : World} (h : NamesLaid w) (hb : Below w.heap.size w w') : NamesLaid w' := fun i hi => pw_cell_below hb (h i hi)
theorem globDrewN {w : World} (h : NamesLaid w) (n : Nat) : NamesLaid (w.drewN n) := h
theorem globDrew {w : World} (h : NamesLaid w) : NamesLaid w.drew := h
def value_name.f (k : Nat) (a0_0 : Int) (a0_1 : Int) (a0_2 : ByteArray) (a0_3 : Int) : Option ByteArray := (value_normal.f k a0_0 a0_1 a0_2 a0_3).bind fun t => if 0 ≤ t.1 ∧ t.1 < 9 then some (namesL.getD t.1.toNat ⟨#[]⟩) else none
theorem value_name.mono : ∀ a0 a1 a2 a3 k, LeO (value_name.f k a0 a1 a2 a3) (value_name.f (k + 1) a0 a1 a2 a3) := by
 intro a0 a1 a2 a3 k
 unfold value_name.f
 exact LeO.bind (value_normal.mono _ _ _ _ _) (fun _ => LeO.refl _)
theorem fld25_0 (a b : Int) (c : ByteArray) (d : Int) (W : World) : (Instr.field 25 (.agg #[.int .i64 a, .int .u64 b, .string c, .int .i64 d]) 0).run Tryd.prog W = .ok (.int .i64 a) W := by kernel_rfl
set_option maxHeartbeats 800000 in
set_option maxRecDepth 100000 in
theorem value_name.calls (k : Nat) (a0_0 : Int) (a0_1 : Int) (a0_2 : ByteArray) (a0_3 : Int) (r : ByteArray) (w : World) (hG : NamesLaid w) (h : value_name.f k a0_0 a0_1 a0_2 a0_3 = some r) :
  Calls Tryd.prog 23 #[.agg #[.int .i64 a0_0, .int .u64 a0_1, .string a0_2, .int .i64 a0_3]] w fun e w' => e = .returned (.string r) ∧ Below w.heap.size w w' := by
 unfold value_name.f at h
 obtain ⟨⟨t0, t1, t2, t3⟩, h1, h2⟩ := Option.bind_eq_some_iff.mp h
 dsimp only at h2
 by_cases hb : 0 ≤ t0 ∧ t0 < 9
 ·rw [if_pos hb] at h2
  have H1 := Aside0.mk h1
  have H2 := Aside0.mk (Option.some.inj h2)
  have HG := Aside0.mk hG
  have hfld := fld25_0
  have q1 : (0 ≤ t0) = True := eq_true hb.1
  have q2 : (t0 < 9) = True := eq_true hb.2
  have HT := Aside0.mk (show t0.toNat < 9 by omega)
  clear h h1 h2 hG hb
  go_enter Tryd.func23, Tryd.ntmps23
  go_wp2_with (go_at_call 14; refine (value_normal.calls k _ _ _ _ t0 t1 t2 t3 _ H1.out).mono ?_; rintro e w1 ⟨rfl, hb1⟩; have HB1 := Aside0.mk hb1; clear hb1; have hq := globBelow (globBelow HG.out ((Below.refl w.heap.size w).alloc (Nat.le_refl _) _)) HB1.out t0.toNat HT.out)
  go_ret
  exact ⟨congrArg (fun s => Ending.returned (.string s)) ((List.getD_eq_getElem?_getD ..).symm.trans H2.out), below_step ((Below.refl w.heap.size w).alloc (Nat.le_refl _) _) HB1.out⟩
 ·rw [if_neg hb] at h2
  cases h2
end Go.Proofs.YtongfmeediokmaaDoor.Pr
end
section
namespace Go.Proofs.YtongfmeediokmaaDoor.Ps
open Go.RowKit Go.Proofs.YtongfmeediokmaaDoorW.PrintWords Go.Proofs.YtongfmeediokmaaDoorW.PrintLast Go.Proofs.YtongfmeediokmaaDoorW.PrintMore Go.Proofs.YtongfmeediokmaaDoor.Pr
attribute [local go_sem] max2_int min2_int max_two min_two max_three min_three max_four min_four
def errW : Option Int → Value
  | none => .nilIface
  | some c => .iface 0 (.int .i64 c)
theorem errW_none : errW none = .nilIface := rfl
theorem errW_some (c : Int) : errW (some c) = .iface 0 (.int .i64 c) := rfl
structure S25 where
  f0 : Int
  f1 : Int
  f2 : ByteArray
  f3 : Int
def z25 : S25 := ⟨(0 : Int), (0 : Int), (⟨#[]⟩ : ByteArray), (0 : Int)⟩
def k25 : Kd S25 := Kd.iso (Kd.pair (Kd.int .i64) (Kd.pair (Kd.int .u64) (Kd.pair Kd.string (Kd.int .i64)))) (fun x : S25 => (x.f0, x.f1, x.f2, x.f3))
def rd_T25 (xs : List S25) (i : Int) : S25 := xs.getD i.toNat z25
end Go.Proofs.YtongfmeediokmaaDoor.Ps
end
section
namespace Go.Proofs.YtongfmeediokmaaDoor.Ps
open Go.RowKit Go.Proofs.YtongfmeediokmaaDoorW.PrintWords Go.Proofs.YtongfmeediokmaaDoorW.PrintLast Go.Proofs.YtongfmeediokmaaDoorW.PrintMore Go.Proofs.YtongfmeediokmaaDoor.Pr
attribute [local go_sem] max2_int min2_int max_two min_two max_three min_three max_four min_four
theorem eqA25 (d : Nat) (w : World) (x0 y0 : Int) (x1 y1 : Int) (x2 y2 : ByteArray) (x3 y3 : Int) :
    (Op.equalIn (d + 2) 25 (.agg #[.int .i64 x0, .int .u64 x1, .string x2, .int .i64 x3]) (.agg #[.int .i64 y0, .int .u64 y1, .string y2, .int .i64 y3])).run Tryd.prog w = .ok (x0 == y0 && (x1 == y1 && (x2.toList == y2.toList && (x3 == y3)))) w := by
  refine eqA_of Tryd.underlying25 (by kernel_rfl) ?_
  refine eqf_cons (by rfl) (by go_simp; rfl) (by go_simp; rfl) (by go_simp) ?_
  refine eqf_cons (by rfl) (by go_simp; rfl) (by go_simp; rfl) (by go_simp) ?_
  refine eqf_cons (by rfl) (by go_simp; rfl) (by go_simp; rfl) (by go_simp) ?_
  exact eqf_last (by rfl) (by go_simp; rfl) (by go_simp; rfl) (by go_simp)
end Go.Proofs.YtongfmeediokmaaDoor.Ps
end
section
namespace Go.Proofs.YtongfmeediokmaaDoor.Ps
open Go.RowKit Go.Proofs.YtongfmeediokmaaDoorW.PrintWords Go.Proofs.YtongfmeediokmaaDoorW.PrintLast Go.Proofs.YtongfmeediokmaaDoorW.PrintMore Go.Proofs.YtongfmeediokmaaDoor.Pr
attribute [local go_sem] max2_int min2_int max_two min_two max_three min_three max_four min_four
def value_Name.f (k : Nat) (a0_0 : Int) (a0_1 : Int) (a0_2 : ByteArray) (a0_3 : Int) : Option (ByteArray) := (value_name.f k a0_0 a0_1 a0_2 a0_3).bind fun t102 => (some t102)
theorem value_Name.mono : ∀ a0 a1 a2 a3 k, LeO (value_Name.f k a0 a1 a2 a3) (value_Name.f (k + 1) a0 a1 a2 a3) := by
  intro a0 a1 a2 a3 k
  unfold value_Name.f
  repeat' first
      | (with_reducible exact value_name.mono _ _ _ _ _)
      | (with_reducible exact LeO.refl _)
      | (with_reducible exact LeO.none _)
      | (with_reducible refine LeO.ite ?_ ?_)
      | (with_reducible refine LeO.bind ?_ (fun _ => ?_))
      | exact value_name.mono _ _ _ _ _
      | exact LeO.none _
      | refine LeO.ite ?_ ?_
      | refine LeO.bind ?_ (fun _ => ?_)
set_option maxHeartbeats 8000000 in
set_option maxRecDepth 100000 in
theorem value_Name.calls (k : Nat) (a0_0 : Int) (a0_1 : Int) (a0_2 : ByteArray) (a0_3 : Int) (r : ByteArray) (w : World) (hG : NamesLaid w) (h : value_Name.f k a0_0 a0_1 a0_2 a0_3 = some r) :
    Calls Tryd.prog 13 #[.agg #[.int .i64 a0_0, .int .u64 a0_1, .string a0_2, .int .i64 a0_3]] w fun e w' => e = .returned (.string r) ∧ Below w.heap.size w w' := by
  have hu25 := Tryd.underlying25
  have HG := Aside0.mk hG
  clear hG
  have HB := Aside0.mk (Below.refl w.heap.size w)
  have H : ((value_name.f k a0_0 a0_1 a0_2 a0_3).bind fun t102 => (some t102)) = some r := h
  clear h
  replace H := Option.bind_eq_some_iff.mp H
  obtain ⟨t102, A20, H⟩ := H
  replace H : (some t102) = some r := H
  have A2 := Aside0.mk A20
  clear A20
  obtain rfl := Option.some.inj H
  go_enter Tryd.func13, Tryd.ntmps13
  go_wp2_with (first | ((with_reducible refine gate_dst (N := 1) rfl ?_); refine box_event ?hg (N := 1) ?hd (cs := #[.int .i64 a0_0, .int .u64 a0_1, .string a0_2, .int .i64 a0_3]) (t := 25) ?hr ?_; (case hd => rfl); (case hg => rfl); (case hr => first | (go_simp; done) | (go_simp; rfl)); intro gb101 hg w3 hbox hb; have n0_ := Aside0.mk (below_step (by repeat (first | (with_reducible first | exact HB.out | apply below_alloc | apply pw_below_drewN | apply below_drew1) | exact HB.out)) hb); have n1_ := Aside0.mk (hbox); have n2_ := Aside0.mk ((by rw [hg]; exact (below_size (by repeat (first | (with_reducible first | exact HB.out | apply below_alloc | apply pw_below_drewN | apply below_drew1) | exact HB.out))) : w.heap.size ≤ gb101)); have n3_ := Aside0.mk ((by rw [hg]; exact (below_size (by repeat (first | (with_reducible first | exact HB.out | apply below_alloc | apply pw_below_drewN | apply below_drew1) | exact HB.out))) : w.heap.size ≤ gb101)); clear HB; have HB := n0_; have BK101 := n1_; have GW101 := n2_; have GE101 := n3_; clear n0_ n1_ n2_ n3_; clear hb hbox hg; have hcz4_0 : w3.cell? ⟨gb101, 0, none⟩ = some (.int .i64 a0_0) := (blk_cell BK101.out 0).trans rfl; have hcz4_1 : w3.cell? ⟨gb101, 1, none⟩ = some (.int .u64 a0_1) := (blk_cell BK101.out 1).trans rfl; have hcz4_2 : w3.cell? ⟨gb101, 2, none⟩ = some (.string a0_2) := (blk_cell BK101.out 2).trans rfl; have hcz4_3 : w3.cell? ⟨gb101, 3, none⟩ = some (.int .i64 a0_3) := (blk_cell BK101.out 3).trans rfl; have hfz4_0 := blk_frozen BK101.out 0; have hfz4_1 := blk_frozen BK101.out 1; have hfz4_2 := blk_frozen BK101.out 2; have hfz4_3 := blk_frozen BK101.out 3) | ((with_reducible refine gate_callee (f := 23) rfl ?_); refine goesL_ (some 4) rfl rfl Tryd.func23 (by kernel_rfl) rfl #[.agg #[.int .i64 a0_0, .int .u64 a0_1, .string a0_2, .int .i64 a0_3]] rfl (by (try simp only [List.map_toArray, List.map_cons, List.map_nil]); first | done | rfl | (simp only [List.length_drop, List.length_take]; rfl)) ?_; (with_reducible refine (value_name.calls k a0_0 a0_1 a0_2 a0_3 t102 _ ?side1 A2.out).mono ?_); (case side1 => first | exact HG.out | exact globDrewN HG.out _ | exact globBelow HG.out (by repeat (first | (with_reducible first | exact HB.out | apply below_alloc | apply pw_below_drewN | apply below_drew1 | refine below_set ?_ GE101.out) | exact HB.out)) | (repeat (first | exact HG.out | apply globDrewN | apply globDrew))); rintro e w5 ⟨rfl, hb⟩; refine ⟨_, rfl, ?_⟩; have n0_ := Aside0.mk (blk_below (g := gb101) (o := .cells #[.int .i64 a0_0, .int .u64 a0_1, .string a0_2, .int .i64 a0_3] 25 (0, 0)) (by (with_reducible repeat (first | refine blk_drewN ?_ _ | refine blk_drew ?_ | refine blk_alloc ?_ _)); exact BK101.out) hb); have n1_ := Aside0.mk (below_step (by repeat (first | (with_reducible first | exact HB.out | apply below_alloc | apply pw_below_drewN | apply below_drew1 | refine below_set ?_ GE101.out) | exact HB.out)) hb); clear BK101; clear HB; have BK101 := n0_; have HB := n1_; clear n0_ n1_; (try clear hb); (try clear hb2); (try clear hk); (try clear hi)))
  go_ret
  exact ⟨by first | rfl | (simp [errW_none, errW_some] <;> rfl) | (simp [*, errW_none, errW_some] <;> rfl), by repeat (first | (with_reducible first | exact HB.out | apply below_alloc | apply pw_below_drewN | apply below_drew1 | refine below_set ?_ GE101.out) | exact HB.out)⟩
def minstrellaw08_lives.f (k : Nat)  : Option (Bool) := (value_Text.f (⟨#[45, 49, 46, 53]⟩ : ByteArray)).bind fun bt103 => ((value_ToNum.f k bt103.1 bt103.2.1 bt103.2.2.1 bt103.2.2.2).bind fun bt107 => (if bt107.1 = 13832806255468478464 then (if bt107.2 = true then ((value_Bool.f true).bind fun bt109 => ((value_Name.f k bt109.1 bt109.2.1 bt109.2.2.1 bt109.2.2.2).bind fun t113 => (if t113.toList = ([98, 111, 111, 108, 101, 97, 110] : List UInt8) then ((value_Num.f 0).bind fun bt114 => ((value_Truth.f k bt114.1 bt114.2.1 bt114.2.2.1 bt114.2.2.2).bind fun t118 => (some t118))) else (none)))) else (none)) else (none)))
theorem minstrellaw08_lives.mono : ∀ k, LeO (minstrellaw08_lives.f k ) (minstrellaw08_lives.f (k + 1) ) := by
  intro  k
  unfold minstrellaw08_lives.f
  repeat' first
      | (with_reducible exact value_Name.mono _ _ _ _ _)
      | (with_reducible exact value_ToNum.mono _ _ _ _ _)
      | (with_reducible exact value_Truth.mono _ _ _ _ _)
      | (with_reducible exact LeO.refl _)
      | (with_reducible exact LeO.none _)
      | (with_reducible refine LeO.ite ?_ ?_)
      | (with_reducible refine LeO.bind ?_ (fun _ => ?_))
      | exact value_Name.mono _ _ _ _ _
      | exact value_ToNum.mono _ _ _ _ _
      | exact value_Truth.mono _ _ _ _ _
      | exact LeO.none _
      | refine LeO.ite ?_ ?_
      | refine LeO.bind ?_ (fun _ => ?_)
set_option maxHeartbeats 8000000 in
set_option maxRecDepth 100000 in
theorem minstrellaw08_lives.calls (k : Nat)  (r : Bool) (w : World) (hG : NamesLaid w) (h : minstrellaw08_lives.f k  = some r) :
    Calls Tryd.prog 7 #[] w fun e w' => e = .returned (.bool r) ∧ Below w.heap.size w w' := by
  have HG := Aside0.mk hG
  clear hG
  have HB := Aside0.mk (Below.refl w.heap.size w)
  have H : ((value_Text.f (⟨#[45, 49, 46, 53]⟩ : ByteArray)).bind fun bt103 => ((value_ToNum.f k bt103.1 bt103.2.1 bt103.2.2.1 bt103.2.2.2).bind fun bt107 => (if bt107.1 = 13832806255468478464 then (if bt107.2 = true then ((value_Bool.f true).bind fun bt109 => ((value_Name.f k bt109.1 bt109.2.1 bt109.2.2.1 bt109.2.2.2).bind fun t113 => (if t113.toList = ([98, 111, 111, 108, 101, 97, 110] : List UInt8) then ((value_Num.f 0).bind fun bt114 => ((value_Truth.f k bt114.1 bt114.2.1 bt114.2.2.1 bt114.2.2.2).bind fun t118 => (some t118))) else (none)))) else (none)) else (none)))) = some r := h
  clear h
  replace H := Option.bind_eq_some_iff.mp H
  obtain ⟨⟨t103, t104, t105, t106⟩, A10, H⟩ := H
  replace H : ((value_ToNum.f k t103 t104 t105 t106).bind fun bt107 => (if bt107.1 = 13832806255468478464 then (if bt107.2 = true then ((value_Bool.f true).bind fun bt109 => ((value_Name.f k bt109.1 bt109.2.1 bt109.2.2.1 bt109.2.2.2).bind fun t113 => (if t113.toList = ([98, 111, 111, 108, 101, 97, 110] : List UInt8) then ((value_Num.f 0).bind fun bt114 => ((value_Truth.f k bt114.1 bt114.2.1 bt114.2.2.1 bt114.2.2.2).bind fun t118 => (some t118))) else (none)))) else (none)) else (none))) = some r := H
  have A1 := Aside0.mk A10
  clear A10
  replace H := Option.bind_eq_some_iff.mp H
  obtain ⟨⟨t107, t108⟩, A20, H⟩ := H
  replace H : (if t107 = 13832806255468478464 then (if t108 = true then ((value_Bool.f true).bind fun bt109 => ((value_Name.f k bt109.1 bt109.2.1 bt109.2.2.1 bt109.2.2.2).bind fun t113 => (if t113.toList = ([98, 111, 111, 108, 101, 97, 110] : List UInt8) then ((value_Num.f 0).bind fun bt114 => ((value_Truth.f k bt114.1 bt114.2.1 bt114.2.2.1 bt114.2.2.2).bind fun t118 => (some t118))) else (none)))) else (none)) else (none)) = some r := H
  have A2 := Aside0.mk A20
  clear A20
  by_cases c3 : t107 = 13832806255468478464
  · rw [if_pos c3] at H
    have c3b0 : (t107 == 13832806255468478464) = true := beq_iff_eq.mpr c3
    have c3b1 : (t107 != 13832806255468478464) = false := bne_eq_false_iff_eq.mpr c3
    clear c3
    by_cases c4 : t108 = true
    · subst c4
      have H1 : ((value_Bool.f true).bind fun bt109 => ((value_Name.f k bt109.1 bt109.2.1 bt109.2.2.1 bt109.2.2.2).bind fun t113 => (if t113.toList = ([98, 111, 111, 108, 101, 97, 110] : List UInt8) then ((value_Num.f 0).bind fun bt114 => ((value_Truth.f k bt114.1 bt114.2.1 bt114.2.2.1 bt114.2.2.2).bind fun t118 => (some t118))) else (none)))) = some r := by rw [if_pos rfl] at H; exact H
      clear H
      have H := H1
      clear H1
      replace H := Option.bind_eq_some_iff.mp H
      obtain ⟨⟨t109, t110, t111, t112⟩, A50, H⟩ := H
      replace H : ((value_Name.f k t109 t110 t111 t112).bind fun t113 => (if t113.toList = ([98, 111, 111, 108, 101, 97, 110] : List UInt8) then ((value_Num.f 0).bind fun bt114 => ((value_Truth.f k bt114.1 bt114.2.1 bt114.2.2.1 bt114.2.2.2).bind fun t118 => (some t118))) else (none))) = some r := H
      have A5 := Aside0.mk A50
      clear A50
      replace H := Option.bind_eq_some_iff.mp H
      obtain ⟨t113, A60, H⟩ := H
      replace H : (if t113.toList = ([98, 111, 111, 108, 101, 97, 110] : List UInt8) then ((value_Num.f 0).bind fun bt114 => ((value_Truth.f k bt114.1 bt114.2.1 bt114.2.2.1 bt114.2.2.2).bind fun t118 => (some t118))) else (none)) = some r := H
      have A6 := Aside0.mk A60
      clear A60
      by_cases c7 : t113.toList = ([98, 111, 111, 108, 101, 97, 110] : List UInt8)
      · rw [if_pos c7] at H
        have c7b0 : (t113.toList == ([98, 111, 111, 108, 101, 97, 110] : List UInt8)) = true := beq_iff_eq.mpr c7
        have c7b1 : (t113.toList != ([98, 111, 111, 108, 101, 97, 110] : List UInt8)) = false := bne_eq_false_iff_eq.mpr c7
        clear c7
        replace H := Option.bind_eq_some_iff.mp H
        obtain ⟨⟨t114, t115, t116, t117⟩, A80, H⟩ := H
        replace H : ((value_Truth.f k t114 t115 t116 t117).bind fun t118 => (some t118)) = some r := H
        have A8 := Aside0.mk A80
        clear A80
        replace H := Option.bind_eq_some_iff.mp H
        obtain ⟨t118, A90, H⟩ := H
        replace H : (some t118) = some r := H
        have A9 := Aside0.mk A90
        clear A90
        obtain rfl := Option.some.inj H
        go_enter Tryd.func7, Tryd.ntmps7
        go_wp2_with (first | ((with_reducible refine gate_callee (f := 17) rfl ?_); refine goesL_ (some 4) rfl rfl Tryd.func17 (by kernel_rfl) rfl #[.string (⟨#[45, 49, 46, 53]⟩ : ByteArray)] rfl (by (try simp only [List.map_toArray, List.map_cons, List.map_nil]); first | done | rfl | (simp only [List.length_drop, List.length_take]; rfl)) ?_; (with_reducible refine (value_Text.calls (⟨#[45, 49, 46, 53]⟩ : ByteArray) t103 t104 t105 t106 _ A1.out).mono ?_); rintro e w10 ⟨rfl, hb⟩; refine ⟨_, rfl, ?_⟩; have n0_ := Aside0.mk (below_step (by repeat (first | (with_reducible first | exact HB.out | apply below_alloc | apply pw_below_drewN | apply below_drew1) | exact HB.out)) hb); clear HB; have HB := n0_; clear n0_; (try clear hb); (try clear hb2); (try clear hk); (try clear hi)) | ((with_reducible refine gate_callee (f := 16) rfl ?_); refine goesL_ (some 5) rfl rfl Tryd.func16 (by kernel_rfl) rfl #[.agg #[.int .i64 t103, .int .u64 t104, .string t105, .int .i64 t106]] rfl (by (try simp only [List.map_toArray, List.map_cons, List.map_nil]); first | done | rfl | (simp only [List.length_drop, List.length_take]; rfl)) ?_; (with_reducible refine (value_ToNum.calls k t103 t104 t105 t106 t107 true _ A2.out).mono ?_); rintro e w11 ⟨rfl, hb⟩; refine ⟨_, rfl, ?_⟩; have n0_ := Aside0.mk (below_step (by repeat (first | (with_reducible first | exact HB.out | apply below_alloc | apply pw_below_drewN | apply below_drew1) | exact HB.out)) hb); clear HB; have HB := n0_; clear n0_; (try clear hb); (try clear hb2); (try clear hk); (try clear hi)) | (go_at_call 18; (with_reducible refine (value_Bool.calls true t109 t110 t111 t112 _ A5.out).mono ?_); rintro e w12 ⟨rfl, hb⟩; have n0_ := Aside0.mk (below_step (by repeat (first | (with_reducible first | exact HB.out | apply below_alloc | apply pw_below_drewN | apply below_drew1) | exact HB.out)) hb); clear HB; have HB := n0_; clear n0_; (try clear hb); (try clear hb2); (try clear hk); (try clear hi)) | (go_at_call 13; (with_reducible refine (value_Name.calls k t109 t110 t111 t112 t113 _ ?side1 A6.out).mono ?_); (case side1 => first | exact HG.out | exact globDrewN HG.out _ | exact globBelow HG.out (by repeat (first | (with_reducible first | exact HB.out | apply below_alloc | apply pw_below_drewN | apply below_drew1) | exact HB.out)) | (repeat (first | exact HG.out | apply globDrewN | apply globDrew))); rintro e w13 ⟨rfl, hb⟩; have n0_ := Aside0.mk (below_step (by repeat (first | (with_reducible first | exact HB.out | apply below_alloc | apply pw_below_drewN | apply below_drew1) | exact HB.out)) hb); clear HB; have HB := n0_; clear n0_; (try clear hb); (try clear hb2); (try clear hk); (try clear hi)) | (go_at_call 19; (with_reducible refine (value_Num.calls 0 t114 t115 t116 t117 _ A8.out).mono ?_); rintro e w14 ⟨rfl, hb⟩; have n0_ := Aside0.mk (below_step (by repeat (first | (with_reducible first | exact HB.out | apply below_alloc | apply pw_below_drewN | apply below_drew1) | exact HB.out)) hb); clear HB; have HB := n0_; clear n0_; (try clear hb); (try clear hb2); (try clear hk); (try clear hi)) | (go_at_call 12; (with_reducible refine (value_Truth.calls k t114 t115 t116 t117 t118 _ A9.out).mono ?_); rintro e w15 ⟨rfl, hb⟩; have n0_ := Aside0.mk (below_step (by repeat (first | (with_reducible first | exact HB.out | apply below_alloc | apply pw_below_drewN | apply below_drew1) | exact HB.out)) hb); clear HB; have HB := n0_; clear n0_; (try clear hb); (try clear hb2); (try clear hk); (try clear hi)))
        go_ret
        exact ⟨by first | rfl | (simp [errW_none, errW_some] <;> rfl) | (simp [*, errW_none, errW_some] <;> rfl), by repeat (first | (with_reducible first | exact HB.out | apply below_alloc | apply pw_below_drewN | apply below_drew1) | exact HB.out)⟩
      · rw [if_neg c7] at H
        exact absurd H (by simp)
    · replace c4 := Bool.eq_false_iff.mpr c4
      subst c4
      have H1 : (none) = some r := by rw [if_neg (show ¬ (false = true) by decide)] at H; exact H
      clear H
      have H := H1
      clear H1
      exact absurd H (by simp)
  · rw [if_neg c3] at H
    exact absurd H (by simp)
end Go.Proofs.YtongfmeediokmaaDoor.Ps
end
section
namespace Go.Proofs.YtongfmeediokmaaDoor.Ps
open Go.RowKit Go.Proofs.YtongfmeediokmaaDoorW.PrintWords Go.Proofs.YtongfmeediokmaaDoorW.PrintLast Go.Proofs.YtongfmeediokmaaDoorW.PrintMore Go.Proofs.YtongfmeediokmaaDoor.Pr
attribute [local go_sem] max2_int min2_int max_two min_two max_three min_three max_four min_four
attribute [local go_sem high] eqA25
mutual
def minstrellaw08_ValueSame.j0 : Nat → Bool → Bool → Int → Int → ByteArray → Int → Int → Int → ByteArray → Int → Option (Bool)
  | 0, _, _, _, _, _, _, _, _, _, _ => none
  | k + 1, x5, x25, x135000, x135001, x135002, x135003, x136000, x136001, x136002, x136003 => if x25 = true then (none) else ((value_Key.f k x135000 x135001 x135002 x135003).bind fun bt139 => ((value_Key.f k x136000 x136001 x136002 x136003).bind fun bt145 => (if bt139.2.2.2.2 = true then (minstrellaw08_ValueSame.j1 k x5 bt145.2.2.2.2 x135000 x135001 x135002 x135003 x136000 x136001 x136002 x136003 bt139.1 bt139.2.1 bt139.2.2.1 bt139.2.2.2.1 bt145.1 bt145.2.1 bt145.2.2.1 bt145.2.2.2.1) else (minstrellaw08_ValueSame.j1 k x5 false x135000 x135001 x135002 x135003 x136000 x136001 x136002 x136003 bt139.1 bt139.2.1 bt139.2.2.1 bt139.2.2.2.1 bt145.1 bt145.2.1 bt145.2.2.1 bt145.2.2.2.1))))
def minstrellaw08_ValueSame.j1 : Nat → Bool → Bool → Int → Int → ByteArray → Int → Int → Int → ByteArray → Int → Int → Int → ByteArray → Int → Int → Int → ByteArray → Int → Option (Bool)
  | 0, _, _, _, _, _, _, _, _, _, _, _, _, _, _, _, _, _, _ => none
  | k + 1, x5, x39, x135000, x135001, x135002, x135003, x136000, x136001, x136002, x136003, x145000, x145001, x145002, x145003, x151000, x151001, x151002, x151003 => if x39 = true then (if (x5 == (x145000 == x151000 && (x145001 == x151001 && (x145002.toList == x151002.toList && (x145003 == x151003))))) = true then ((minstrellaw08_lives.f k).bind fun t151 => (some t151)) else (none)) else ((minstrelref08_Normal.f k x135000 x135001 x135002 x135003).bind fun bt152 => (if bt152.1 = 0 then ((minstrelref08_Normal.f k x136000 x136001 x136002 x136003).bind fun bt156 => (if (x5 == (bt156.1 == 0)) = true then ((minstrellaw08_lives.f k).bind fun t160 => (some t160)) else (none))) else (if (x5 == false) = true then ((minstrellaw08_lives.f k).bind fun t161 => (some t161)) else (none))))
end
def minstrellaw08_ValueSame.f (k : Nat) (a0_0 : Int) (a0_1 : Int) (a0_2 : ByteArray) (a0_3 : Int) (a1_0 : Int) (a1_1 : Int) (a1_2 : ByteArray) (a1_3 : Int) : Option (Bool) := (value_Same.f k a0_0 a0_1 a0_2 a0_3 a1_0 a1_1 a1_2 a1_3).bind fun t136 => ((minstrelref08_Same.f k a0_0 a0_1 a0_2 a0_3 a1_0 a1_1 a1_2 a1_3).bind fun t137 => (if (t136 != t137) = true then (minstrellaw08_ValueSame.j0 k t136 true a0_0 a0_1 a0_2 a0_3 a1_0 a1_1 a1_2 a1_3) else ((value_Same.f k a1_0 a1_1 a1_2 a1_3 a0_0 a0_1 a0_2 a0_3).bind fun t138 => (minstrellaw08_ValueSame.j0 k t136 (t138 != t136) a0_0 a0_1 a0_2 a0_3 a1_0 a1_1 a1_2 a1_3))))
set_option maxHeartbeats 8000000 in
set_option maxRecDepth 100000 in
theorem minstrellaw08_ValueSame.calls (k : Nat) (a0_0 : Int) (a0_1 : Int) (a0_2 : ByteArray) (a0_3 : Int) (a1_0 : Int) (a1_1 : Int) (a1_2 : ByteArray) (a1_3 : Int) (r : Bool) (w : World) (hG : NamesLaid w) (h : minstrellaw08_ValueSame.f k a0_0 a0_1 a0_2 a0_3 a1_0 a1_1 a1_2 a1_3 = some r) :
    Calls Tryd.prog 4 #[.agg #[.int .i64 a0_0, .int .u64 a0_1, .string a0_2, .int .i64 a0_3], .agg #[.int .i64 a1_0, .int .u64 a1_1, .string a1_2, .int .i64 a1_3]] w fun e w' => e = .returned (.bool r) ∧ Below w.heap.size w w' := by
  have hu25 := Tryd.underlying25
  have HG := Aside0.mk hG
  clear hG
  have HB := Aside0.mk (Below.refl w.heap.size w)
  have H : ((value_Same.f k a0_0 a0_1 a0_2 a0_3 a1_0 a1_1 a1_2 a1_3).bind fun t136 => ((minstrelref08_Same.f k a0_0 a0_1 a0_2 a0_3 a1_0 a1_1 a1_2 a1_3).bind fun t137 => (if (t136 != t137) = true then (minstrellaw08_ValueSame.j0 k t136 true a0_0 a0_1 a0_2 a0_3 a1_0 a1_1 a1_2 a1_3) else ((value_Same.f k a1_0 a1_1 a1_2 a1_3 a0_0 a0_1 a0_2 a0_3).bind fun t138 => (minstrellaw08_ValueSame.j0 k t136 (t138 != t136) a0_0 a0_1 a0_2 a0_3 a1_0 a1_1 a1_2 a1_3))))) = some r := h
  clear h
  replace H := Option.bind_eq_some_iff.mp H
  obtain ⟨t136, A30, H⟩ := H
  replace H : ((minstrelref08_Same.f k a0_0 a0_1 a0_2 a0_3 a1_0 a1_1 a1_2 a1_3).bind fun t137 => (if (t136 != t137) = true then (minstrellaw08_ValueSame.j0 k t136 true a0_0 a0_1 a0_2 a0_3 a1_0 a1_1 a1_2 a1_3) else ((value_Same.f k a1_0 a1_1 a1_2 a1_3 a0_0 a0_1 a0_2 a0_3).bind fun t138 => (minstrellaw08_ValueSame.j0 k t136 (t138 != t136) a0_0 a0_1 a0_2 a0_3 a1_0 a1_1 a1_2 a1_3)))) = some r := H
  have A3 := Aside0.mk A30
  clear A30
  have HC4 := Aside0.mk H
  clear H
  have kf25_ := fld25_0
  go_enter Tryd.func4, Tryd.ntmps4
  go_upto_region 2 with (first | ((with_reducible refine gate_dst (N := 2) rfl ?_); refine box_event ?hg (N := 2) ?hd (cs := #[.int .i64 a0_0, .int .u64 a0_1, .string a0_2, .int .i64 a0_3]) (t := 25) ?hr ?_; (case hd => rfl); (case hg => rfl); (case hr => first | (go_simp; done) | (go_simp; rfl)); intro gb134 hg w5 hbox hb; have n0_ := Aside0.mk (below_step (by repeat (first | (with_reducible first | exact HB.out | apply below_alloc | apply pw_below_drewN | apply below_drew1) | exact HB.out)) hb); have n1_ := Aside0.mk (hbox); have n2_ := Aside0.mk ((by rw [hg]; exact (below_size (by repeat (first | (with_reducible first | exact HB.out | apply below_alloc | apply pw_below_drewN | apply below_drew1) | exact HB.out))) : w.heap.size ≤ gb134)); have n3_ := Aside0.mk ((by rw [hg]; exact (below_size (by repeat (first | (with_reducible first | exact HB.out | apply below_alloc | apply pw_below_drewN | apply below_drew1) | exact HB.out))) : w.heap.size ≤ gb134)); clear HB; have HB := n0_; have BK134 := n1_; have GW134 := n2_; have GE134 := n3_; clear n0_ n1_ n2_ n3_; clear hb hbox hg) | ((with_reducible refine gate_dst (N := 3) rfl ?_); refine box_event ?hg (N := 3) ?hd (cs := #[.int .i64 a1_0, .int .u64 a1_1, .string a1_2, .int .i64 a1_3]) (t := 25) ?hr ?_; (case hd => rfl); (case hg => rfl); (case hr => first | (go_simp; done) | (go_simp; rfl)); intro gb135 hg w6 hbox hb; have n0_ := Aside0.mk (blk_below (g := gb134) (o := .cells #[.int .i64 a0_0, .int .u64 a0_1, .string a0_2, .int .i64 a0_3] 25 (0, 0)) (by (with_reducible repeat (first | refine blk_drewN ?_ _ | refine blk_drew ?_ | refine blk_alloc ?_ _)); exact BK134.out) hb); have n1_ := Aside0.mk (below_step (by repeat (first | (with_reducible first | exact HB.out | apply below_alloc | apply pw_below_drewN | apply below_drew1 | refine below_set ?_ GE134.out) | exact HB.out)) hb); have n2_ := Aside0.mk (hbox); have n3_ := Aside0.mk ((by rw [hg]; exact (below_size (by repeat (first | (with_reducible first | exact HB.out | apply below_alloc | apply pw_below_drewN | apply below_drew1 | refine below_set ?_ GE134.out) | exact HB.out))) : w.heap.size ≤ gb135)); have n4_ := Aside0.mk ((by rw [hg]; exact (below_size (by repeat (first | (with_reducible first | exact HB.out | apply below_alloc | apply pw_below_drewN | apply below_drew1 | refine below_set ?_ GE134.out) | exact HB.out))) : w.heap.size ≤ gb135)); have n5_ := Aside0.mk ((by rw [hg]; exact Nat.ne_of_lt (blk_lt (g := gb134) (o := .cells #[.int .i64 a0_0, .int .u64 a0_1, .string a0_2, .int .i64 a0_3] 25 (0, 0)) (by (with_reducible repeat (first | refine blk_drewN ?_ _ | refine blk_drew ?_ | refine blk_alloc ?_ _)); exact BK134.out)) : gb134 ≠ gb135)); have n6_ := Aside0.mk ((by rw [hg]; exact Nat.ne_of_gt (blk_lt (g := gb134) (o := .cells #[.int .i64 a0_0, .int .u64 a0_1, .string a0_2, .int .i64 a0_3] 25 (0, 0)) (by (with_reducible repeat (first | refine blk_drewN ?_ _ | refine blk_drew ?_ | refine blk_alloc ?_ _)); exact BK134.out)) : gb135 ≠ gb134)); clear BK134; clear HB; have BK134 := n0_; have HB := n1_; have BK135 := n2_; have GW135 := n3_; have GE135 := n4_; have NB134_135 := n5_; have NB135_134 := n6_; clear n0_ n1_ n2_ n3_ n4_ n5_ n6_; clear hb hbox hg; have hnb7 := NB134_135.out; have hnc7 := NB135_134.out; have hcz8_0 : w6.cell? ⟨gb134, 0, none⟩ = some (.int .i64 a0_0) := (blk_cell BK134.out 0).trans rfl; have hcz8_1 : w6.cell? ⟨gb134, 1, none⟩ = some (.int .u64 a0_1) := (blk_cell BK134.out 1).trans rfl; have hcz8_2 : w6.cell? ⟨gb134, 2, none⟩ = some (.string a0_2) := (blk_cell BK134.out 2).trans rfl; have hcz8_3 : w6.cell? ⟨gb134, 3, none⟩ = some (.int .i64 a0_3) := (blk_cell BK134.out 3).trans rfl; have hfz8_0 := blk_frozen BK134.out 0; have hfz8_1 := blk_frozen BK134.out 1; have hfz8_2 := blk_frozen BK134.out 2; have hfz8_3 := blk_frozen BK134.out 3; have hcz9_0 : w6.cell? ⟨gb135, 0, none⟩ = some (.int .i64 a1_0) := (blk_cell BK135.out 0).trans rfl; have hcz9_1 : w6.cell? ⟨gb135, 1, none⟩ = some (.int .u64 a1_1) := (blk_cell BK135.out 1).trans rfl; have hcz9_2 : w6.cell? ⟨gb135, 2, none⟩ = some (.string a1_2) := (blk_cell BK135.out 2).trans rfl; have hcz9_3 : w6.cell? ⟨gb135, 3, none⟩ = some (.int .i64 a1_3) := (blk_cell BK135.out 3).trans rfl; have hfz9_0 := blk_frozen BK135.out 0; have hfz9_1 := blk_frozen BK135.out 1; have hfz9_2 := blk_frozen BK135.out 2; have hfz9_3 := blk_frozen BK135.out 3) | ((with_reducible refine gate_callee (f := 6) rfl ?_); refine goesL_ (some 13) rfl rfl Tryd.func6 (by kernel_rfl) rfl #[.agg #[.int .i64 a0_0, .int .u64 a0_1, .string a0_2, .int .i64 a0_3], .agg #[.int .i64 a1_0, .int .u64 a1_1, .string a1_2, .int .i64 a1_3]] rfl (by (try simp only [List.map_toArray, List.map_cons, List.map_nil]); first | done | rfl | (simp only [List.length_drop, List.length_take]; rfl)) ?_; (with_reducible refine (value_Same.calls k a0_0 a0_1 a0_2 a0_3 a1_0 a1_1 a1_2 a1_3 t136 _ A3.out).mono ?_); rintro e w10 ⟨rfl, hb⟩; refine ⟨_, rfl, ?_⟩; have n0_ := Aside0.mk (blk_below (g := gb134) (o := .cells #[.int .i64 a0_0, .int .u64 a0_1, .string a0_2, .int .i64 a0_3] 25 (0, 0)) (by (with_reducible repeat (first | refine blk_drewN ?_ _ | refine blk_drew ?_ | refine blk_alloc ?_ _)); exact BK134.out) hb); have n1_ := Aside0.mk (blk_below (g := gb135) (o := .cells #[.int .i64 a1_0, .int .u64 a1_1, .string a1_2, .int .i64 a1_3] 25 (0, 0)) (by (with_reducible repeat (first | refine blk_drewN ?_ _ | refine blk_drew ?_ | refine blk_alloc ?_ _)); exact BK135.out) hb); have n2_ := Aside0.mk (below_step (by repeat (first | (with_reducible first | exact HB.out | apply below_alloc | apply pw_below_drewN | apply below_drew1 | refine below_set ?_ GE134.out | refine below_set ?_ GE135.out) | exact HB.out)) hb); clear BK134; clear BK135; clear HB; have BK134 := n0_; have BK135 := n1_; have HB := n2_; clear n0_ n1_ n2_; (try clear hb); (try clear hb2); (try clear hk); (try clear hi)))
  (try simp only [Act.put, List.setIfInBounds_toArray, List.set_cons_zero, List.set_cons_succ])
  go_cut [25] (fun v25 wc => ∃ (kq : Nat) (x25_3 : Bool), v25 = .bool x25_3 ∧ Aside0 (minstrellaw08_ValueSame.j0 kq t136 x25_3 a0_0 a0_1 a0_2 a0_3 a1_0 a1_1 a1_2 a1_3 = some r) ∧ Aside0 (kq ≤ k) ∧ Aside0 (wc.heap[gb134]? = some (.cells #[.int .i64 a0_0, .int .u64 a0_1, .string a0_2, .int .i64 a0_3] 25 (0, 0))) ∧ Aside0 (wc.heap[gb135]? = some (.cells #[.int .i64 a1_0, .int .u64 a1_1, .string a1_2, .int .i64 a1_3] 25 (0, 0))) ∧ Aside0 (Below w.heap.size w wc))
  case first =>
    have H := HC4.out
    clear HC4
    replace H := Option.bind_eq_some_iff.mp H
    obtain ⟨t137, A110, H⟩ := H
    replace H : (if (t136 != t137) = true then (minstrellaw08_ValueSame.j0 k t136 true a0_0 a0_1 a0_2 a0_3 a1_0 a1_1 a1_2 a1_3) else ((value_Same.f k a1_0 a1_1 a1_2 a1_3 a0_0 a0_1 a0_2 a0_3).bind fun t138 => (minstrellaw08_ValueSame.j0 k t136 (t138 != t136) a0_0 a0_1 a0_2 a0_3 a1_0 a1_1 a1_2 a1_3))) = some r := H
    have A11 := Aside0.mk A110
    clear A110
    by_cases c12 : (t136 != t137) = true
    · rw [if_pos c12] at H
      have c12b0 : (t136 != t137) = true := c12
      (try (have c12b1 : decide (t136 = t137) = false := by simpa using c12))
      (try (have c12b2 : (t136 == t137) = false := by simpa using c12))
      (try (have c12b3 : ¬ (t136 = t137) := by simpa using c12))
      clear c12
      (first | rw [c12b0] | (simp only [i64_w, i32_w]; rw [c12b0]) | rw [c12b1] | (simp only [i64_w, i32_w]; rw [c12b1]) | skip)
      have H' := Aside0.mk H
      clear H
      have hnb13 := NB134_135.out
      have hnc13 := NB135_134.out
      have hcz14_0 : w10.cell? ⟨gb134, 0, none⟩ = some (.int .i64 a0_0) := (blk_cell BK134.out 0).trans rfl
      have hcz14_1 : w10.cell? ⟨gb134, 1, none⟩ = some (.int .u64 a0_1) := (blk_cell BK134.out 1).trans rfl
      have hcz14_2 : w10.cell? ⟨gb134, 2, none⟩ = some (.string a0_2) := (blk_cell BK134.out 2).trans rfl
      have hcz14_3 : w10.cell? ⟨gb134, 3, none⟩ = some (.int .i64 a0_3) := (blk_cell BK134.out 3).trans rfl
      have hfz14_0 := blk_frozen BK134.out 0
      have hfz14_1 := blk_frozen BK134.out 1
      have hfz14_2 := blk_frozen BK134.out 2
      have hfz14_3 := blk_frozen BK134.out 3
      have hcz15_0 : w10.cell? ⟨gb135, 0, none⟩ = some (.int .i64 a1_0) := (blk_cell BK135.out 0).trans rfl
      have hcz15_1 : w10.cell? ⟨gb135, 1, none⟩ = some (.int .u64 a1_1) := (blk_cell BK135.out 1).trans rfl
      have hcz15_2 : w10.cell? ⟨gb135, 2, none⟩ = some (.string a1_2) := (blk_cell BK135.out 2).trans rfl
      have hcz15_3 : w10.cell? ⟨gb135, 3, none⟩ = some (.int .i64 a1_3) := (blk_cell BK135.out 3).trans rfl
      have hfz15_0 := blk_frozen BK135.out 0
      have hfz15_1 := blk_frozen BK135.out 1
      have hfz15_2 := blk_frozen BK135.out 2
      have hfz15_3 := blk_frozen BK135.out 3
      go_wp2_with (first | ((with_reducible refine gate_callee (f := 8) rfl ?_); refine goesL_ (some 17) rfl rfl Tryd.func8 (by kernel_rfl) rfl #[.agg #[.int .i64 a0_0, .int .u64 a0_1, .string a0_2, .int .i64 a0_3], .agg #[.int .i64 a1_0, .int .u64 a1_1, .string a1_2, .int .i64 a1_3]] rfl (by (try simp only [List.map_toArray, List.map_cons, List.map_nil]); first | done | rfl | (simp only [List.length_drop, List.length_take]; rfl)) ?_; (with_reducible refine (minstrelref08_Same.calls k a0_0 a0_1 a0_2 a0_3 a1_0 a1_1 a1_2 a1_3 t137 _ A11.out).mono ?_); rintro e w16 ⟨rfl, hb⟩; refine ⟨_, rfl, ?_⟩; have n0_ := Aside0.mk (blk_below (g := gb134) (o := .cells #[.int .i64 a0_0, .int .u64 a0_1, .string a0_2, .int .i64 a0_3] 25 (0, 0)) (by (with_reducible repeat (first | refine blk_drewN ?_ _ | refine blk_drew ?_ | refine blk_alloc ?_ _)); exact BK134.out) hb); have n1_ := Aside0.mk (blk_below (g := gb135) (o := .cells #[.int .i64 a1_0, .int .u64 a1_1, .string a1_2, .int .i64 a1_3] 25 (0, 0)) (by (with_reducible repeat (first | refine blk_drewN ?_ _ | refine blk_drew ?_ | refine blk_alloc ?_ _)); exact BK135.out) hb); have n2_ := Aside0.mk (below_step (by repeat (first | (with_reducible first | exact HB.out | apply below_alloc | apply pw_below_drewN | apply below_drew1 | refine below_set ?_ GE134.out | refine below_set ?_ GE135.out) | exact HB.out)) hb); clear BK134; clear BK135; clear HB; have BK134 := n0_; have BK135 := n1_; have HB := n2_; clear n0_ n1_ n2_; (try clear hb); (try clear hb2); (try clear hk); (try clear hi)))
      go_meet
      case rel => exact ⟨_, (true), (by first | rfl | (simp; done) | (simp [*]; done)), H', ⟨by first | omega | exact Nat.le_refl _⟩, ⟨by (with_reducible repeat (first | refine blk_drewN ?_ _ | refine blk_drew ?_ | refine blk_alloc ?_ _)); exact BK134.out⟩, ⟨by (with_reducible repeat (first | refine blk_drewN ?_ _ | refine blk_drew ?_ | refine blk_alloc ?_ _)); exact BK135.out⟩, ⟨by repeat (first | (with_reducible first | exact HB.out | apply below_alloc | apply pw_below_drewN | apply below_drew1 | refine below_set ?_ GE134.out | refine below_set ?_ GE135.out) | exact HB.out)⟩⟩
    · rw [if_neg c12] at H
      have c12b0 : (t136 != t137) = false := by simpa using c12
      (try (have c12b1 : decide (t136 = t137) = true := by simpa using c12))
      (try (have c12b2 : (t136 == t137) = true := by simpa using c12))
      clear c12
      (first | rw [c12b0] | (simp only [i64_w, i32_w]; rw [c12b0]) | rw [c12b1] | (simp only [i64_w, i32_w]; rw [c12b1]) | skip)
      replace H := Option.bind_eq_some_iff.mp H
      obtain ⟨t138, A170, H⟩ := H
      replace H : (minstrellaw08_ValueSame.j0 k t136 (t138 != t136) a0_0 a0_1 a0_2 a0_3 a1_0 a1_1 a1_2 a1_3) = some r := H
      have A17 := Aside0.mk A170
      clear A170
      have H' := Aside0.mk H
      clear H
      have hnb18 := NB134_135.out
      have hnc18 := NB135_134.out
      have hcz19_0 : w10.cell? ⟨gb134, 0, none⟩ = some (.int .i64 a0_0) := (blk_cell BK134.out 0).trans rfl
      have hcz19_1 : w10.cell? ⟨gb134, 1, none⟩ = some (.int .u64 a0_1) := (blk_cell BK134.out 1).trans rfl
      have hcz19_2 : w10.cell? ⟨gb134, 2, none⟩ = some (.string a0_2) := (blk_cell BK134.out 2).trans rfl
      have hcz19_3 : w10.cell? ⟨gb134, 3, none⟩ = some (.int .i64 a0_3) := (blk_cell BK134.out 3).trans rfl
      have hfz19_0 := blk_frozen BK134.out 0
      have hfz19_1 := blk_frozen BK134.out 1
      have hfz19_2 := blk_frozen BK134.out 2
      have hfz19_3 := blk_frozen BK134.out 3
      have hcz20_0 : w10.cell? ⟨gb135, 0, none⟩ = some (.int .i64 a1_0) := (blk_cell BK135.out 0).trans rfl
      have hcz20_1 : w10.cell? ⟨gb135, 1, none⟩ = some (.int .u64 a1_1) := (blk_cell BK135.out 1).trans rfl
      have hcz20_2 : w10.cell? ⟨gb135, 2, none⟩ = some (.string a1_2) := (blk_cell BK135.out 2).trans rfl
      have hcz20_3 : w10.cell? ⟨gb135, 3, none⟩ = some (.int .i64 a1_3) := (blk_cell BK135.out 3).trans rfl
      have hfz20_0 := blk_frozen BK135.out 0
      have hfz20_1 := blk_frozen BK135.out 1
      have hfz20_2 := blk_frozen BK135.out 2
      have hfz20_3 := blk_frozen BK135.out 3
      go_wp2_with (first | ((with_reducible refine gate_callee (f := 8) rfl ?_); refine goesL_ (some 17) rfl rfl Tryd.func8 (by kernel_rfl) rfl #[.agg #[.int .i64 a0_0, .int .u64 a0_1, .string a0_2, .int .i64 a0_3], .agg #[.int .i64 a1_0, .int .u64 a1_1, .string a1_2, .int .i64 a1_3]] rfl (by (try simp only [List.map_toArray, List.map_cons, List.map_nil]); first | done | rfl | (simp only [List.length_drop, List.length_take]; rfl)) ?_; (with_reducible refine (minstrelref08_Same.calls k a0_0 a0_1 a0_2 a0_3 a1_0 a1_1 a1_2 a1_3 t137 _ A11.out).mono ?_); rintro e w21 ⟨rfl, hb⟩; refine ⟨_, rfl, ?_⟩; have n0_ := Aside0.mk (blk_below (g := gb134) (o := .cells #[.int .i64 a0_0, .int .u64 a0_1, .string a0_2, .int .i64 a0_3] 25 (0, 0)) (by (with_reducible repeat (first | refine blk_drewN ?_ _ | refine blk_drew ?_ | refine blk_alloc ?_ _)); exact BK134.out) hb); have n1_ := Aside0.mk (blk_below (g := gb135) (o := .cells #[.int .i64 a1_0, .int .u64 a1_1, .string a1_2, .int .i64 a1_3] 25 (0, 0)) (by (with_reducible repeat (first | refine blk_drewN ?_ _ | refine blk_drew ?_ | refine blk_alloc ?_ _)); exact BK135.out) hb); have n2_ := Aside0.mk (below_step (by repeat (first | (with_reducible first | exact HB.out | apply below_alloc | apply pw_below_drewN | apply below_drew1 | refine below_set ?_ GE134.out | refine below_set ?_ GE135.out) | exact HB.out)) hb); clear BK134; clear BK135; clear HB; have BK134 := n0_; have BK135 := n1_; have HB := n2_; clear n0_ n1_ n2_; (try clear hb); (try clear hb2); (try clear hk); (try clear hi); have hcz22_0 : w21.cell? ⟨gb135, 0, none⟩ = some (.int .i64 a1_0) := (blk_cell BK135.out 0).trans rfl; have hcz22_1 : w21.cell? ⟨gb135, 1, none⟩ = some (.int .u64 a1_1) := (blk_cell BK135.out 1).trans rfl; have hcz22_2 : w21.cell? ⟨gb135, 2, none⟩ = some (.string a1_2) := (blk_cell BK135.out 2).trans rfl; have hcz22_3 : w21.cell? ⟨gb135, 3, none⟩ = some (.int .i64 a1_3) := (blk_cell BK135.out 3).trans rfl; have hfz22_0 := blk_frozen BK135.out 0; have hfz22_1 := blk_frozen BK135.out 1; have hfz22_2 := blk_frozen BK135.out 2; have hfz22_3 := blk_frozen BK135.out 3; have hcz23_0 : w21.cell? ⟨gb134, 0, none⟩ = some (.int .i64 a0_0) := (blk_cell BK134.out 0).trans rfl; have hcz23_1 : w21.cell? ⟨gb134, 1, none⟩ = some (.int .u64 a0_1) := (blk_cell BK134.out 1).trans rfl; have hcz23_2 : w21.cell? ⟨gb134, 2, none⟩ = some (.string a0_2) := (blk_cell BK134.out 2).trans rfl; have hcz23_3 : w21.cell? ⟨gb134, 3, none⟩ = some (.int .i64 a0_3) := (blk_cell BK134.out 3).trans rfl; have hfz23_0 := blk_frozen BK134.out 0; have hfz23_1 := blk_frozen BK134.out 1; have hfz23_2 := blk_frozen BK134.out 2; have hfz23_3 := blk_frozen BK134.out 3) | (go_at_call 6; (with_reducible refine (value_Same.calls k a1_0 a1_1 a1_2 a1_3 a0_0 a0_1 a0_2 a0_3 t138 _ A17.out).mono ?_); rintro e w24 ⟨rfl, hb⟩; have n0_ := Aside0.mk (blk_below (g := gb134) (o := .cells #[.int .i64 a0_0, .int .u64 a0_1, .string a0_2, .int .i64 a0_3] 25 (0, 0)) (by (with_reducible repeat (first | refine blk_drewN ?_ _ | refine blk_drew ?_ | refine blk_alloc ?_ _)); exact BK134.out) hb); have n1_ := Aside0.mk (blk_below (g := gb135) (o := .cells #[.int .i64 a1_0, .int .u64 a1_1, .string a1_2, .int .i64 a1_3] 25 (0, 0)) (by (with_reducible repeat (first | refine blk_drewN ?_ _ | refine blk_drew ?_ | refine blk_alloc ?_ _)); exact BK135.out) hb); have n2_ := Aside0.mk (below_step (by repeat (first | (with_reducible first | exact HB.out | apply below_alloc | apply pw_below_drewN | apply below_drew1 | refine below_set ?_ GE134.out | refine below_set ?_ GE135.out) | exact HB.out)) hb); clear BK134; clear BK135; clear HB; have BK134 := n0_; have BK135 := n1_; have HB := n2_; clear n0_ n1_ n2_; (try clear hb); (try clear hb2); (try clear hk); (try clear hi)))
      go_meet
      case rel => exact ⟨_, ((t138 != t136)), (by first | rfl | (simp; done) | (simp [*]; done)), H', ⟨by first | omega | exact Nat.le_refl _⟩, ⟨by (with_reducible repeat (first | refine blk_drewN ?_ _ | refine blk_drew ?_ | refine blk_alloc ?_ _)); exact BK134.out⟩, ⟨by (with_reducible repeat (first | refine blk_drewN ?_ _ | refine blk_drew ?_ | refine blk_alloc ?_ _)); exact BK135.out⟩, ⟨by repeat (first | (with_reducible first | exact HB.out | apply below_alloc | apply pw_below_drewN | apply below_drew1 | refine below_set ?_ GE134.out | refine below_set ?_ GE135.out) | exact HB.out)⟩⟩
  case rest =>
    clear HC4
    try clear c1
    try clear p2
    try clear c4
    try clear c6
    try clear c7
    try clear c8
    try clear c12
    try clear c12b0
    try clear c12b1
    try clear c12b2
    try clear c13
    try clear c18
    try clear hcz14_0
    try clear hcz14_1
    try clear hcz14_2
    try clear hcz14_3
    try clear hcz15_0
    try clear hcz15_1
    try clear hcz15_2
    try clear hcz15_3
    try clear hcz19_0
    try clear hcz19_1
    try clear hcz19_2
    try clear hcz19_3
    try clear hcz20_0
    try clear hcz20_1
    try clear hcz20_2
    try clear hcz20_3
    try clear hcz22_0
    try clear hcz22_1
    try clear hcz22_2
    try clear hcz22_3
    try clear hcz23_0
    try clear hcz23_1
    try clear hcz23_2
    try clear hcz23_3
    try clear hcz8_0
    try clear hcz8_1
    try clear hcz8_2
    try clear hcz8_3
    try clear hcz9_0
    try clear hcz9_1
    try clear hcz9_2
    try clear hcz9_3
    try clear hfz14_0
    try clear hfz14_1
    try clear hfz14_2
    try clear hfz14_3
    try clear hfz15_0
    try clear hfz15_1
    try clear hfz15_2
    try clear hfz15_3
    try clear hfz19_0
    try clear hfz19_1
    try clear hfz19_2
    try clear hfz19_3
    try clear hfz20_0
    try clear hfz20_1
    try clear hfz20_2
    try clear hfz20_3
    try clear hfz22_0
    try clear hfz22_1
    try clear hfz22_2
    try clear hfz22_3
    try clear hfz23_0
    try clear hfz23_1
    try clear hfz23_2
    try clear hfz23_3
    try clear hfz8_0
    try clear hfz8_1
    try clear hfz8_2
    try clear hfz8_3
    try clear hfz9_0
    try clear hfz9_1
    try clear hfz9_2
    try clear hfz9_3
    obtain ⟨kq, x25_3, rfl, HA, HJ3, BK134, BK135, HB⟩ := hcut
    cases kq with
    | zero => exact absurd HA.out (by simp [minstrellaw08_ValueSame.j0])
    | succ kj3 =>
      have H := HA.out
      clear HA
      simp only [minstrellaw08_ValueSame.j0] at H
      by_cases c25 : x25_3 = true
      · subst c25
        have H1 : (none) = some r := by rw [if_pos rfl] at H; exact H
        clear H
        have H := H1
        clear H1
        exact absurd H (by simp)
      · replace c25 := Bool.eq_false_iff.mpr c25
        subst c25
        have H1 : ((value_Key.f kj3 a0_0 a0_1 a0_2 a0_3).bind fun bt139 => ((value_Key.f kj3 a1_0 a1_1 a1_2 a1_3).bind fun bt145 => (if bt139.2.2.2.2 = true then (minstrellaw08_ValueSame.j1 kj3 t136 bt145.2.2.2.2 a0_0 a0_1 a0_2 a0_3 a1_0 a1_1 a1_2 a1_3 bt139.1 bt139.2.1 bt139.2.2.1 bt139.2.2.2.1 bt145.1 bt145.2.1 bt145.2.2.1 bt145.2.2.2.1) else (minstrellaw08_ValueSame.j1 kj3 t136 false a0_0 a0_1 a0_2 a0_3 a1_0 a1_1 a1_2 a1_3 bt139.1 bt139.2.1 bt139.2.2.1 bt139.2.2.2.1 bt145.1 bt145.2.1 bt145.2.2.1 bt145.2.2.2.1)))) = some r := by rw [if_neg (show ¬ (false = true) by decide)] at H; exact H
        clear H
        have H := H1
        clear H1
        replace H := Option.bind_eq_some_iff.mp H
        obtain ⟨⟨t139, t140, t141, t142, t143⟩, A260, H⟩ := H
        replace H : ((value_Key.f kj3 a1_0 a1_1 a1_2 a1_3).bind fun bt145 => (if t143 = true then (minstrellaw08_ValueSame.j1 kj3 t136 bt145.2.2.2.2 a0_0 a0_1 a0_2 a0_3 a1_0 a1_1 a1_2 a1_3 t139 t140 t141 t142 bt145.1 bt145.2.1 bt145.2.2.1 bt145.2.2.2.1) else (minstrellaw08_ValueSame.j1 kj3 t136 false a0_0 a0_1 a0_2 a0_3 a1_0 a1_1 a1_2 a1_3 t139 t140 t141 t142 bt145.1 bt145.2.1 bt145.2.2.1 bt145.2.2.2.1))) = some r := H
        have A26 := Aside0.mk A260
        clear A260
        replace H := Option.bind_eq_some_iff.mp H
        obtain ⟨⟨t145, t146, t147, t148, t149⟩, A270, H⟩ := H
        replace H : (if t143 = true then (minstrellaw08_ValueSame.j1 kj3 t136 t149 a0_0 a0_1 a0_2 a0_3 a1_0 a1_1 a1_2 a1_3 t139 t140 t141 t142 t145 t146 t147 t148) else (minstrellaw08_ValueSame.j1 kj3 t136 false a0_0 a0_1 a0_2 a0_3 a1_0 a1_1 a1_2 a1_3 t139 t140 t141 t142 t145 t146 t147 t148)) = some r := H
        have A27 := Aside0.mk A270
        clear A270
        have HC28 := Aside0.mk H
        clear H
        have hnb29 := NB134_135.out
        have hnc29 := NB135_134.out
        have hcz30_0 : wc.cell? ⟨gb134, 0, none⟩ = some (.int .i64 a0_0) := (blk_cell BK134.out 0).trans rfl
        have hcz30_1 : wc.cell? ⟨gb134, 1, none⟩ = some (.int .u64 a0_1) := (blk_cell BK134.out 1).trans rfl
        have hcz30_2 : wc.cell? ⟨gb134, 2, none⟩ = some (.string a0_2) := (blk_cell BK134.out 2).trans rfl
        have hcz30_3 : wc.cell? ⟨gb134, 3, none⟩ = some (.int .i64 a0_3) := (blk_cell BK134.out 3).trans rfl
        have hfz30_0 := blk_frozen BK134.out 0
        have hfz30_1 := blk_frozen BK134.out 1
        have hfz30_2 := blk_frozen BK134.out 2
        have hfz30_3 := blk_frozen BK134.out 3
        go_upto_region 6 with (first | ((with_reducible refine gate_callee (f := 9) rfl ?_); refine goesL_ (some 28) rfl rfl Tryd.func9 (by kernel_rfl) rfl #[.agg #[.int .i64 a0_0, .int .u64 a0_1, .string a0_2, .int .i64 a0_3]] rfl (by (try simp only [List.map_toArray, List.map_cons, List.map_nil]); first | done | rfl | (simp only [List.length_drop, List.length_take]; rfl)) ?_; (with_reducible refine (value_Key.calls kj3 a0_0 a0_1 a0_2 a0_3 t139 t140 t141 t142 t143 _ A26.out).mono ?_); rintro e w31 ⟨rfl, hb⟩; refine ⟨_, rfl, ?_⟩; have n0_ := Aside0.mk (blk_below (g := gb134) (o := .cells #[.int .i64 a0_0, .int .u64 a0_1, .string a0_2, .int .i64 a0_3] 25 (0, 0)) (by (with_reducible repeat (first | refine blk_drewN ?_ _ | refine blk_drew ?_ | refine blk_alloc ?_ _)); exact BK134.out) hb); have n1_ := Aside0.mk (blk_below (g := gb135) (o := .cells #[.int .i64 a1_0, .int .u64 a1_1, .string a1_2, .int .i64 a1_3] 25 (0, 0)) (by (with_reducible repeat (first | refine blk_drewN ?_ _ | refine blk_drew ?_ | refine blk_alloc ?_ _)); exact BK135.out) hb); have n2_ := Aside0.mk (below_step (by repeat (first | (with_reducible first | exact HB.out | apply below_alloc | apply pw_below_drewN | apply below_drew1 | refine below_set ?_ GE134.out | refine below_set ?_ GE135.out) | exact HB.out)) hb); clear BK134; clear BK135; clear HB; have BK134 := n0_; have BK135 := n1_; have HB := n2_; clear n0_ n1_ n2_; (try clear hb); (try clear hb2); (try clear hk); (try clear hi)) | ((with_reducible refine gate_dst (N := 6) rfl ?_); refine box_event ?hg (N := 6) ?hd (cs := #[.int .i64 0, .int .u64 0, .string (⟨#[]⟩ : ByteArray), .int .i64 0]) (t := 25) ?hr ?_; (case hd => rfl); (case hg => rfl); (case hr => first | (go_simp; done) | (go_simp; rfl)); intro gb144 hg w32 hbox hb; have n0_ := Aside0.mk (blk_below (g := gb134) (o := .cells #[.int .i64 a0_0, .int .u64 a0_1, .string a0_2, .int .i64 a0_3] 25 (0, 0)) (by (with_reducible repeat (first | refine blk_drewN ?_ _ | refine blk_drew ?_ | refine blk_alloc ?_ _)); exact BK134.out) hb); have n1_ := Aside0.mk (blk_below (g := gb135) (o := .cells #[.int .i64 a1_0, .int .u64 a1_1, .string a1_2, .int .i64 a1_3] 25 (0, 0)) (by (with_reducible repeat (first | refine blk_drewN ?_ _ | refine blk_drew ?_ | refine blk_alloc ?_ _)); exact BK135.out) hb); have n2_ := Aside0.mk (below_step (by repeat (first | (with_reducible first | exact HB.out | apply below_alloc | apply pw_below_drewN | apply below_drew1 | refine below_set ?_ GE134.out | refine below_set ?_ GE135.out) | exact HB.out)) hb); have n3_ := Aside0.mk (hbox); have n4_ := Aside0.mk ((by rw [hg]; exact (below_size (by repeat (first | (with_reducible first | exact HB.out | apply below_alloc | apply pw_below_drewN | apply below_drew1 | refine below_set ?_ GE134.out | refine below_set ?_ GE135.out) | exact HB.out))) : w.heap.size ≤ gb144)); have n5_ := Aside0.mk ((by rw [hg]; exact (below_size (by repeat (first | (with_reducible first | exact HB.out | apply below_alloc | apply pw_below_drewN | apply below_drew1 | refine below_set ?_ GE134.out | refine below_set ?_ GE135.out) | exact HB.out))) : w.heap.size ≤ gb144)); have n6_ := Aside0.mk ((by rw [hg]; exact Nat.ne_of_lt (blk_lt (g := gb134) (o := .cells #[.int .i64 a0_0, .int .u64 a0_1, .string a0_2, .int .i64 a0_3] 25 (0, 0)) (by (with_reducible repeat (first | refine blk_drewN ?_ _ | refine blk_drew ?_ | refine blk_alloc ?_ _)); exact BK134.out)) : gb134 ≠ gb144)); have n7_ := Aside0.mk ((by rw [hg]; exact Nat.ne_of_gt (blk_lt (g := gb134) (o := .cells #[.int .i64 a0_0, .int .u64 a0_1, .string a0_2, .int .i64 a0_3] 25 (0, 0)) (by (with_reducible repeat (first | refine blk_drewN ?_ _ | refine blk_drew ?_ | refine blk_alloc ?_ _)); exact BK134.out)) : gb144 ≠ gb134)); have n8_ := Aside0.mk ((by rw [hg]; exact Nat.ne_of_lt (blk_lt (g := gb135) (o := .cells #[.int .i64 a1_0, .int .u64 a1_1, .string a1_2, .int .i64 a1_3] 25 (0, 0)) (by (with_reducible repeat (first | refine blk_drewN ?_ _ | refine blk_drew ?_ | refine blk_alloc ?_ _)); exact BK135.out)) : gb135 ≠ gb144)); have n9_ := Aside0.mk ((by rw [hg]; exact Nat.ne_of_gt (blk_lt (g := gb135) (o := .cells #[.int .i64 a1_0, .int .u64 a1_1, .string a1_2, .int .i64 a1_3] 25 (0, 0)) (by (with_reducible repeat (first | refine blk_drewN ?_ _ | refine blk_drew ?_ | refine blk_alloc ?_ _)); exact BK135.out)) : gb144 ≠ gb135)); clear BK134; clear BK135; clear HB; have BK134 := n0_; have BK135 := n1_; have HB := n2_; have BK144 := n3_; have GW144 := n4_; have GE144 := n5_; have NB134_144 := n6_; have NB144_134 := n7_; have NB135_144 := n8_; have NB144_135 := n9_; clear n0_ n1_ n2_ n3_ n4_ n5_ n6_ n7_ n8_ n9_; clear hb hbox hg; have hnb33 := NB144_134.out; have hnc33 := NB134_144.out; have hnb34 := NB144_135.out; have hnc34 := NB135_144.out; have hcz35_0 : w32.cell? ⟨gb144, 0, none⟩ = some (.int .i64 0) := (blk_cell BK144.out 0).trans rfl; have hcz35_1 : w32.cell? ⟨gb144, 1, none⟩ = some (.int .u64 0) := (blk_cell BK144.out 1).trans rfl; have hcz35_2 : w32.cell? ⟨gb144, 2, none⟩ = some (.string (⟨#[]⟩ : ByteArray)) := (blk_cell BK144.out 2).trans rfl; have hcz35_3 : w32.cell? ⟨gb144, 3, none⟩ = some (.int .i64 0) := (blk_cell BK144.out 3).trans rfl; have hfz35_0 := blk_frozen BK144.out 0; have hfz35_1 := blk_frozen BK144.out 1; have hfz35_2 := blk_frozen BK144.out 2; have hfz35_3 := blk_frozen BK144.out 3; have hcz36_0 : w32.cell? ⟨gb135, 0, none⟩ = some (.int .i64 a1_0) := (blk_cell BK135.out 0).trans rfl; have hcz36_1 : w32.cell? ⟨gb135, 1, none⟩ = some (.int .u64 a1_1) := (blk_cell BK135.out 1).trans rfl; have hcz36_2 : w32.cell? ⟨gb135, 2, none⟩ = some (.string a1_2) := (blk_cell BK135.out 2).trans rfl; have hcz36_3 : w32.cell? ⟨gb135, 3, none⟩ = some (.int .i64 a1_3) := (blk_cell BK135.out 3).trans rfl; have hfz36_0 := blk_frozen BK135.out 0; have hfz36_1 := blk_frozen BK135.out 1; have hfz36_2 := blk_frozen BK135.out 2; have hfz36_3 := blk_frozen BK135.out 3) | ((with_reducible refine gate_callee (f := 9) rfl ?_); refine goesL_ (some 33) rfl rfl Tryd.func9 (by kernel_rfl) rfl #[.agg #[.int .i64 a1_0, .int .u64 a1_1, .string a1_2, .int .i64 a1_3]] rfl (by (try simp only [List.map_toArray, List.map_cons, List.map_nil]); first | done | rfl | (simp only [List.length_drop, List.length_take]; rfl)) ?_; (with_reducible refine (value_Key.calls kj3 a1_0 a1_1 a1_2 a1_3 t145 t146 t147 t148 t149 _ A27.out).mono ?_); rintro e w37 ⟨rfl, hb⟩; refine ⟨_, rfl, ?_⟩; have n0_ := Aside0.mk (blk_below (g := gb134) (o := .cells #[.int .i64 a0_0, .int .u64 a0_1, .string a0_2, .int .i64 a0_3] 25 (0, 0)) (by (with_reducible repeat (first | refine blk_drewN ?_ _ | refine blk_drew ?_ | refine blk_alloc ?_ _)); refine blk_far ?_ NB134_144.out _; (with_reducible repeat (first | refine blk_drewN ?_ _ | refine blk_drew ?_ | refine blk_alloc ?_ _)); refine blk_far ?_ NB134_144.out _; (with_reducible repeat (first | refine blk_drewN ?_ _ | refine blk_drew ?_ | refine blk_alloc ?_ _)); refine blk_far ?_ NB134_144.out _; (with_reducible repeat (first | refine blk_drewN ?_ _ | refine blk_drew ?_ | refine blk_alloc ?_ _)); refine blk_far ?_ NB134_144.out _; (with_reducible repeat (first | refine blk_drewN ?_ _ | refine blk_drew ?_ | refine blk_alloc ?_ _)); exact BK134.out) hb); have n1_ := Aside0.mk (blk_below (g := gb135) (o := .cells #[.int .i64 a1_0, .int .u64 a1_1, .string a1_2, .int .i64 a1_3] 25 (0, 0)) (by (with_reducible repeat (first | refine blk_drewN ?_ _ | refine blk_drew ?_ | refine blk_alloc ?_ _)); refine blk_far ?_ NB135_144.out _; (with_reducible repeat (first | refine blk_drewN ?_ _ | refine blk_drew ?_ | refine blk_alloc ?_ _)); refine blk_far ?_ NB135_144.out _; (with_reducible repeat (first | refine blk_drewN ?_ _ | refine blk_drew ?_ | refine blk_alloc ?_ _)); refine blk_far ?_ NB135_144.out _; (with_reducible repeat (first | refine blk_drewN ?_ _ | refine blk_drew ?_ | refine blk_alloc ?_ _)); refine blk_far ?_ NB135_144.out _; (with_reducible repeat (first | refine blk_drewN ?_ _ | refine blk_drew ?_ | refine blk_alloc ?_ _)); exact BK135.out) hb); have n2_ := Aside0.mk (blk_below (g := gb144) (o := .cells #[.int .i64 t139, .int .u64 t140, .string t141, .int .i64 t142] 25 (0, 0)) (by (with_reducible repeat (first | refine blk_drewN ?_ _ | refine blk_drew ?_ | refine blk_alloc ?_ _)); refine blk_put (cs := #[.int .i64 t139, .int .u64 t140, .string t141, .int .i64 0]) ?_ 3 _ rfl; (with_reducible repeat (first | refine blk_drewN ?_ _ | refine blk_drew ?_ | refine blk_alloc ?_ _)); refine blk_put (cs := #[.int .i64 t139, .int .u64 t140, .string (⟨#[]⟩ : ByteArray), .int .i64 0]) ?_ 2 _ rfl; (with_reducible repeat (first | refine blk_drewN ?_ _ | refine blk_drew ?_ | refine blk_alloc ?_ _)); refine blk_put (cs := #[.int .i64 t139, .int .u64 0, .string (⟨#[]⟩ : ByteArray), .int .i64 0]) ?_ 1 _ rfl; (with_reducible repeat (first | refine blk_drewN ?_ _ | refine blk_drew ?_ | refine blk_alloc ?_ _)); refine blk_put (cs := #[.int .i64 0, .int .u64 0, .string (⟨#[]⟩ : ByteArray), .int .i64 0]) ?_ 0 _ rfl; (with_reducible repeat (first | refine blk_drewN ?_ _ | refine blk_drew ?_ | refine blk_alloc ?_ _)); exact BK144.out) hb); have n3_ := Aside0.mk (below_step (by repeat (first | (with_reducible first | exact HB.out | apply below_alloc | apply pw_below_drewN | apply below_drew1 | refine below_set ?_ GE134.out | refine below_set ?_ GE135.out | refine below_set ?_ GE144.out) | exact HB.out)) hb); clear BK134; clear BK135; clear BK144; clear HB; have BK134 := n0_; have BK135 := n1_; have BK144 := n2_; have HB := n3_; clear n0_ n1_ n2_ n3_; (try clear hb); (try clear hb2); (try clear hk); (try clear hi)) | ((with_reducible refine gate_dst (N := 8) rfl ?_); refine box_event ?hg (N := 8) ?hd (cs := #[.int .i64 0, .int .u64 0, .string (⟨#[]⟩ : ByteArray), .int .i64 0]) (t := 25) ?hr ?_; (case hd => rfl); (case hg => rfl); (case hr => first | (go_simp; done) | (go_simp; rfl)); intro gb150 hg w38 hbox hb; have n0_ := Aside0.mk (blk_below (g := gb134) (o := .cells #[.int .i64 a0_0, .int .u64 a0_1, .string a0_2, .int .i64 a0_3] 25 (0, 0)) (by (with_reducible repeat (first | refine blk_drewN ?_ _ | refine blk_drew ?_ | refine blk_alloc ?_ _)); exact BK134.out) hb); have n1_ := Aside0.mk (blk_below (g := gb135) (o := .cells #[.int .i64 a1_0, .int .u64 a1_1, .string a1_2, .int .i64 a1_3] 25 (0, 0)) (by (with_reducible repeat (first | refine blk_drewN ?_ _ | refine blk_drew ?_ | refine blk_alloc ?_ _)); exact BK135.out) hb); have n2_ := Aside0.mk (blk_below (g := gb144) (o := .cells #[.int .i64 t139, .int .u64 t140, .string t141, .int .i64 t142] 25 (0, 0)) (by (with_reducible repeat (first | refine blk_drewN ?_ _ | refine blk_drew ?_ | refine blk_alloc ?_ _)); exact BK144.out) hb); have n3_ := Aside0.mk (below_step (by repeat (first | (with_reducible first | exact HB.out | apply below_alloc | apply pw_below_drewN | apply below_drew1 | refine below_set ?_ GE134.out | refine below_set ?_ GE135.out | refine below_set ?_ GE144.out) | exact HB.out)) hb); have n4_ := Aside0.mk (hbox); have n5_ := Aside0.mk ((by rw [hg]; exact (below_size (by repeat (first | (with_reducible first | exact HB.out | apply below_alloc | apply pw_below_drewN | apply below_drew1 | refine below_set ?_ GE134.out | refine below_set ?_ GE135.out | refine below_set ?_ GE144.out) | exact HB.out))) : w.heap.size ≤ gb150)); have n6_ := Aside0.mk ((by rw [hg]; exact (below_size (by repeat (first | (with_reducible first | exact HB.out | apply below_alloc | apply pw_below_drewN | apply below_drew1 | refine below_set ?_ GE134.out | refine below_set ?_ GE135.out | refine below_set ?_ GE144.out) | exact HB.out))) : w.heap.size ≤ gb150)); have n7_ := Aside0.mk ((by rw [hg]; exact Nat.ne_of_lt (blk_lt (g := gb134) (o := .cells #[.int .i64 a0_0, .int .u64 a0_1, .string a0_2, .int .i64 a0_3] 25 (0, 0)) (by (with_reducible repeat (first | refine blk_drewN ?_ _ | refine blk_drew ?_ | refine blk_alloc ?_ _)); exact BK134.out)) : gb134 ≠ gb150)); have n8_ := Aside0.mk ((by rw [hg]; exact Nat.ne_of_gt (blk_lt (g := gb134) (o := .cells #[.int .i64 a0_0, .int .u64 a0_1, .string a0_2, .int .i64 a0_3] 25 (0, 0)) (by (with_reducible repeat (first | refine blk_drewN ?_ _ | refine blk_drew ?_ | refine blk_alloc ?_ _)); exact BK134.out)) : gb150 ≠ gb134)); have n9_ := Aside0.mk ((by rw [hg]; exact Nat.ne_of_lt (blk_lt (g := gb135) (o := .cells #[.int .i64 a1_0, .int .u64 a1_1, .string a1_2, .int .i64 a1_3] 25 (0, 0)) (by (with_reducible repeat (first | refine blk_drewN ?_ _ | refine blk_drew ?_ | refine blk_alloc ?_ _)); exact BK135.out)) : gb135 ≠ gb150)); have n10_ := Aside0.mk ((by rw [hg]; exact Nat.ne_of_gt (blk_lt (g := gb135) (o := .cells #[.int .i64 a1_0, .int .u64 a1_1, .string a1_2, .int .i64 a1_3] 25 (0, 0)) (by (with_reducible repeat (first | refine blk_drewN ?_ _ | refine blk_drew ?_ | refine blk_alloc ?_ _)); exact BK135.out)) : gb150 ≠ gb135)); have n11_ := Aside0.mk ((by rw [hg]; exact Nat.ne_of_lt (blk_lt (g := gb144) (o := .cells #[.int .i64 t139, .int .u64 t140, .string t141, .int .i64 t142] 25 (0, 0)) (by (with_reducible repeat (first | refine blk_drewN ?_ _ | refine blk_drew ?_ | refine blk_alloc ?_ _)); exact BK144.out)) : gb144 ≠ gb150)); have n12_ := Aside0.mk ((by rw [hg]; exact Nat.ne_of_gt (blk_lt (g := gb144) (o := .cells #[.int .i64 t139, .int .u64 t140, .string t141, .int .i64 t142] 25 (0, 0)) (by (with_reducible repeat (first | refine blk_drewN ?_ _ | refine blk_drew ?_ | refine blk_alloc ?_ _)); exact BK144.out)) : gb150 ≠ gb144)); clear BK134; clear BK135; clear BK144; clear HB; have BK134 := n0_; have BK135 := n1_; have BK144 := n2_; have HB := n3_; have BK150 := n4_; have GW150 := n5_; have GE150 := n6_; have NB134_150 := n7_; have NB150_134 := n8_; have NB135_150 := n9_; have NB150_135 := n10_; have NB144_150 := n11_; have NB150_144 := n12_; clear n0_ n1_ n2_ n3_ n4_ n5_ n6_ n7_ n8_ n9_ n10_ n11_ n12_; clear hb hbox hg; have hnb39 := NB150_134.out; have hnc39 := NB134_150.out; have hnb40 := NB150_135.out; have hnc40 := NB135_150.out; have hnb41 := NB150_144.out; have hnc41 := NB144_150.out; have hcz42_0 : w38.cell? ⟨gb150, 0, none⟩ = some (.int .i64 0) := (blk_cell BK150.out 0).trans rfl; have hcz42_1 : w38.cell? ⟨gb150, 1, none⟩ = some (.int .u64 0) := (blk_cell BK150.out 1).trans rfl; have hcz42_2 : w38.cell? ⟨gb150, 2, none⟩ = some (.string (⟨#[]⟩ : ByteArray)) := (blk_cell BK150.out 2).trans rfl; have hcz42_3 : w38.cell? ⟨gb150, 3, none⟩ = some (.int .i64 0) := (blk_cell BK150.out 3).trans rfl; have hfz42_0 := blk_frozen BK150.out 0; have hfz42_1 := blk_frozen BK150.out 1; have hfz42_2 := blk_frozen BK150.out 2; have hfz42_3 := blk_frozen BK150.out 3))
        (try simp only [Act.put, List.setIfInBounds_toArray, List.set_cons_zero, List.set_cons_succ])
        go_cut [39] (fun v39 wc => ∃ (kq : Nat) (x39_27 : Bool), v39 = .bool x39_27 ∧ Aside0 (minstrellaw08_ValueSame.j1 kq t136 x39_27 a0_0 a0_1 a0_2 a0_3 a1_0 a1_1 a1_2 a1_3 t139 t140 t141 t142 t145 t146 t147 t148 = some r) ∧ Aside0 (kq ≤ kj3) ∧ Aside0 (wc.heap[gb134]? = some (.cells #[.int .i64 a0_0, .int .u64 a0_1, .string a0_2, .int .i64 a0_3] 25 (0, 0))) ∧ Aside0 (wc.heap[gb135]? = some (.cells #[.int .i64 a1_0, .int .u64 a1_1, .string a1_2, .int .i64 a1_3] 25 (0, 0))) ∧ Aside0 (wc.heap[gb144]? = some (.cells #[.int .i64 t139, .int .u64 t140, .string t141, .int .i64 t142] 25 (0, 0))) ∧ Aside0 (wc.heap[gb150]? = some (.cells #[.int .i64 t145, .int .u64 t146, .string t147, .int .i64 t148] 25 (0, 0))) ∧ Aside0 (Below w.heap.size w wc))
        case first =>
          have H := HC28.out
          clear HC28
          by_cases c43 : t143 = true
          · subst c43
            have H1 : (minstrellaw08_ValueSame.j1 kj3 t136 t149 a0_0 a0_1 a0_2 a0_3 a1_0 a1_1 a1_2 a1_3 t139 t140 t141 t142 t145 t146 t147 t148) = some r := by rw [if_pos rfl] at H; exact H
            clear H
            have H := H1
            clear H1
            have H' := Aside0.mk H
            clear H
            go_wp2
            go_meet
            case rel => exact ⟨_, (t149), (by first | rfl | (simp; done) | (simp [*]; done)), H', ⟨by have := HJ3.out; first | omega | exact Nat.le_refl _⟩, ⟨by (with_reducible repeat (first | refine blk_drewN ?_ _ | refine blk_drew ?_ | refine blk_alloc ?_ _)); refine blk_far ?_ NB134_150.out _; (with_reducible repeat (first | refine blk_drewN ?_ _ | refine blk_drew ?_ | refine blk_alloc ?_ _)); refine blk_far ?_ NB134_150.out _; (with_reducible repeat (first | refine blk_drewN ?_ _ | refine blk_drew ?_ | refine blk_alloc ?_ _)); refine blk_far ?_ NB134_150.out _; (with_reducible repeat (first | refine blk_drewN ?_ _ | refine blk_drew ?_ | refine blk_alloc ?_ _)); refine blk_far ?_ NB134_150.out _; (with_reducible repeat (first | refine blk_drewN ?_ _ | refine blk_drew ?_ | refine blk_alloc ?_ _)); exact BK134.out⟩, ⟨by (with_reducible repeat (first | refine blk_drewN ?_ _ | refine blk_drew ?_ | refine blk_alloc ?_ _)); refine blk_far ?_ NB135_150.out _; (with_reducible repeat (first | refine blk_drewN ?_ _ | refine blk_drew ?_ | refine blk_alloc ?_ _)); refine blk_far ?_ NB135_150.out _; (with_reducible repeat (first | refine blk_drewN ?_ _ | refine blk_drew ?_ | refine blk_alloc ?_ _)); refine blk_far ?_ NB135_150.out _; (with_reducible repeat (first | refine blk_drewN ?_ _ | refine blk_drew ?_ | refine blk_alloc ?_ _)); refine blk_far ?_ NB135_150.out _; (with_reducible repeat (first | refine blk_drewN ?_ _ | refine blk_drew ?_ | refine blk_alloc ?_ _)); exact BK135.out⟩, ⟨by (with_reducible repeat (first | refine blk_drewN ?_ _ | refine blk_drew ?_ | refine blk_alloc ?_ _)); refine blk_far ?_ NB144_150.out _; (with_reducible repeat (first | refine blk_drewN ?_ _ | refine blk_drew ?_ | refine blk_alloc ?_ _)); refine blk_far ?_ NB144_150.out _; (with_reducible repeat (first | refine blk_drewN ?_ _ | refine blk_drew ?_ | refine blk_alloc ?_ _)); refine blk_far ?_ NB144_150.out _; (with_reducible repeat (first | refine blk_drewN ?_ _ | refine blk_drew ?_ | refine blk_alloc ?_ _)); refine blk_far ?_ NB144_150.out _; (with_reducible repeat (first | refine blk_drewN ?_ _ | refine blk_drew ?_ | refine blk_alloc ?_ _)); exact BK144.out⟩, ⟨by (with_reducible repeat (first | refine blk_drewN ?_ _ | refine blk_drew ?_ | refine blk_alloc ?_ _)); refine blk_put (cs := #[.int .i64 t145, .int .u64 t146, .string t147, .int .i64 0]) ?_ 3 _ rfl; (with_reducible repeat (first | refine blk_drewN ?_ _ | refine blk_drew ?_ | refine blk_alloc ?_ _)); refine blk_put (cs := #[.int .i64 t145, .int .u64 t146, .string (⟨#[]⟩ : ByteArray), .int .i64 0]) ?_ 2 _ rfl; (with_reducible repeat (first | refine blk_drewN ?_ _ | refine blk_drew ?_ | refine blk_alloc ?_ _)); refine blk_put (cs := #[.int .i64 t145, .int .u64 0, .string (⟨#[]⟩ : ByteArray), .int .i64 0]) ?_ 1 _ rfl; (with_reducible repeat (first | refine blk_drewN ?_ _ | refine blk_drew ?_ | refine blk_alloc ?_ _)); refine blk_put (cs := #[.int .i64 0, .int .u64 0, .string (⟨#[]⟩ : ByteArray), .int .i64 0]) ?_ 0 _ rfl; (with_reducible repeat (first | refine blk_drewN ?_ _ | refine blk_drew ?_ | refine blk_alloc ?_ _)); exact BK150.out⟩, ⟨by repeat (first | (with_reducible first | exact HB.out | apply below_alloc | apply pw_below_drewN | apply below_drew1 | refine below_set ?_ GE134.out | refine below_set ?_ GE135.out | refine below_set ?_ GE144.out | refine below_set ?_ GE150.out) | exact HB.out)⟩⟩
          · replace c43 := Bool.eq_false_iff.mpr c43
            subst c43
            have H1 : (minstrellaw08_ValueSame.j1 kj3 t136 false a0_0 a0_1 a0_2 a0_3 a1_0 a1_1 a1_2 a1_3 t139 t140 t141 t142 t145 t146 t147 t148) = some r := by rw [if_neg (show ¬ (false = true) by decide)] at H; exact H
            clear H
            have H := H1
            clear H1
            have H' := Aside0.mk H
            clear H
            go_wp2
            go_meet
            case rel => exact ⟨_, (false), (by first | rfl | (simp; done) | (simp [*]; done)), H', ⟨by have := HJ3.out; first | omega | exact Nat.le_refl _⟩, ⟨by (with_reducible repeat (first | refine blk_drewN ?_ _ | refine blk_drew ?_ | refine blk_alloc ?_ _)); refine blk_far ?_ NB134_150.out _; (with_reducible repeat (first | refine blk_drewN ?_ _ | refine blk_drew ?_ | refine blk_alloc ?_ _)); refine blk_far ?_ NB134_150.out _; (with_reducible repeat (first | refine blk_drewN ?_ _ | refine blk_drew ?_ | refine blk_alloc ?_ _)); refine blk_far ?_ NB134_150.out _; (with_reducible repeat (first | refine blk_drewN ?_ _ | refine blk_drew ?_ | refine blk_alloc ?_ _)); refine blk_far ?_ NB134_150.out _; (with_reducible repeat (first | refine blk_drewN ?_ _ | refine blk_drew ?_ | refine blk_alloc ?_ _)); exact BK134.out⟩, ⟨by (with_reducible repeat (first | refine blk_drewN ?_ _ | refine blk_drew ?_ | refine blk_alloc ?_ _)); refine blk_far ?_ NB135_150.out _; (with_reducible repeat (first | refine blk_drewN ?_ _ | refine blk_drew ?_ | refine blk_alloc ?_ _)); refine blk_far ?_ NB135_150.out _; (with_reducible repeat (first | refine blk_drewN ?_ _ | refine blk_drew ?_ | refine blk_alloc ?_ _)); refine blk_far ?_ NB135_150.out _; (with_reducible repeat (first | refine blk_drewN ?_ _ | refine blk_drew ?_ | refine blk_alloc ?_ _)); refine blk_far ?_ NB135_150.out _; (with_reducible repeat (first | refine blk_drewN ?_ _ | refine blk_drew ?_ | refine blk_alloc ?_ _)); exact BK135.out⟩, ⟨by (with_reducible repeat (first | refine blk_drewN ?_ _ | refine blk_drew ?_ | refine blk_alloc ?_ _)); refine blk_far ?_ NB144_150.out _; (with_reducible repeat (first | refine blk_drewN ?_ _ | refine blk_drew ?_ | refine blk_alloc ?_ _)); refine blk_far ?_ NB144_150.out _; (with_reducible repeat (first | refine blk_drewN ?_ _ | refine blk_drew ?_ | refine blk_alloc ?_ _)); refine blk_far ?_ NB144_150.out _; (with_reducible repeat (first | refine blk_drewN ?_ _ | refine blk_drew ?_ | refine blk_alloc ?_ _)); refine blk_far ?_ NB144_150.out _; (with_reducible repeat (first | refine blk_drewN ?_ _ | refine blk_drew ?_ | refine blk_alloc ?_ _)); exact BK144.out⟩, ⟨by (with_reducible repeat (first | refine blk_drewN ?_ _ | refine blk_drew ?_ | refine blk_alloc ?_ _)); refine blk_put (cs := #[.int .i64 t145, .int .u64 t146, .string t147, .int .i64 0]) ?_ 3 _ rfl; (with_reducible repeat (first | refine blk_drewN ?_ _ | refine blk_drew ?_ | refine blk_alloc ?_ _)); refine blk_put (cs := #[.int .i64 t145, .int .u64 t146, .string (⟨#[]⟩ : ByteArray), .int .i64 0]) ?_ 2 _ rfl; (with_reducible repeat (first | refine blk_drewN ?_ _ | refine blk_drew ?_ | refine blk_alloc ?_ _)); refine blk_put (cs := #[.int .i64 t145, .int .u64 0, .string (⟨#[]⟩ : ByteArray), .int .i64 0]) ?_ 1 _ rfl; (with_reducible repeat (first | refine blk_drewN ?_ _ | refine blk_drew ?_ | refine blk_alloc ?_ _)); refine blk_put (cs := #[.int .i64 0, .int .u64 0, .string (⟨#[]⟩ : ByteArray), .int .i64 0]) ?_ 0 _ rfl; (with_reducible repeat (first | refine blk_drewN ?_ _ | refine blk_drew ?_ | refine blk_alloc ?_ _)); exact BK150.out⟩, ⟨by repeat (first | (with_reducible first | exact HB.out | apply below_alloc | apply pw_below_drewN | apply below_drew1 | refine below_set ?_ GE134.out | refine below_set ?_ GE135.out | refine below_set ?_ GE144.out | refine below_set ?_ GE150.out) | exact HB.out)⟩⟩
        case rest =>
          clear HC28
          try clear c1
          try clear c2
          try clear p2
          try clear c3
          try clear c4
          try clear c6
          try clear c7
          try clear c8
          try clear c9
          try clear c12
          try clear c12b0
          try clear c12b1
          try clear c12b2
          try clear c13
          try clear c18
          try clear c25
          try clear c29
          try clear c33
          try clear c34
          try clear c39
          try clear c40
          try clear c41
          try clear c43
          try clear hcz14_0
          try clear hcz14_1
          try clear hcz14_2
          try clear hcz14_3
          try clear hcz15_0
          try clear hcz15_1
          try clear hcz15_2
          try clear hcz15_3
          try clear hcz19_0
          try clear hcz19_1
          try clear hcz19_2
          try clear hcz19_3
          try clear hcz20_0
          try clear hcz20_1
          try clear hcz20_2
          try clear hcz20_3
          try clear hcz22_0
          try clear hcz22_1
          try clear hcz22_2
          try clear hcz22_3
          try clear hcz23_0
          try clear hcz23_1
          try clear hcz23_2
          try clear hcz23_3
          try clear hcz30_0
          try clear hcz30_1
          try clear hcz30_2
          try clear hcz30_3
          try clear hcz35_0
          try clear hcz35_1
          try clear hcz35_2
          try clear hcz35_3
          try clear hcz36_0
          try clear hcz36_1
          try clear hcz36_2
          try clear hcz36_3
          try clear hcz42_0
          try clear hcz42_1
          try clear hcz42_2
          try clear hcz42_3
          try clear hcz8_0
          try clear hcz8_1
          try clear hcz8_2
          try clear hcz8_3
          try clear hcz9_0
          try clear hcz9_1
          try clear hcz9_2
          try clear hcz9_3
          try clear hfz14_0
          try clear hfz14_1
          try clear hfz14_2
          try clear hfz14_3
          try clear hfz15_0
          try clear hfz15_1
          try clear hfz15_2
          try clear hfz15_3
          try clear hfz19_0
          try clear hfz19_1
          try clear hfz19_2
          try clear hfz19_3
          try clear hfz20_0
          try clear hfz20_1
          try clear hfz20_2
          try clear hfz20_3
          try clear hfz22_0
          try clear hfz22_1
          try clear hfz22_2
          try clear hfz22_3
          try clear hfz23_0
          try clear hfz23_1
          try clear hfz23_2
          try clear hfz23_3
          try clear hfz30_0
          try clear hfz30_1
          try clear hfz30_2
          try clear hfz30_3
          try clear hfz35_0
          try clear hfz35_1
          try clear hfz35_2
          try clear hfz35_3
          try clear hfz36_0
          try clear hfz36_1
          try clear hfz36_2
          try clear hfz36_3
          try clear hfz42_0
          try clear hfz42_1
          try clear hfz42_2
          try clear hfz42_3
          try clear hfz8_0
          try clear hfz8_1
          try clear hfz8_2
          try clear hfz8_3
          try clear hfz9_0
          try clear hfz9_1
          try clear hfz9_2
          try clear hfz9_3
          try clear p2
          obtain ⟨kq, x39_27, rfl, HA, HJ27, BK134, BK135, BK144, BK150, HB⟩ := hcut
          cases kq with
          | zero => exact absurd HA.out (by simp [minstrellaw08_ValueSame.j1])
          | succ kj27 =>
            have H := HA.out
            clear HA
            simp only [minstrellaw08_ValueSame.j1] at H
            by_cases c44 : x39_27 = true
            · subst c44
              have H1 : (if (t136 == (t139 == t145 && (t140 == t146 && (t141.toList == t147.toList && (t142 == t148))))) = true then ((minstrellaw08_lives.f kj27).bind fun t151 => (some t151)) else (none)) = some r := by rw [if_pos rfl] at H; exact H
              clear H
              have H := H1
              clear H1
              by_cases c45 : (t136 == (t139 == t145 && (t140 == t146 && (t141.toList == t147.toList && (t142 == t148))))) = true
              · rw [if_pos c45] at H
                have c45b0 : (t136 == (t139 == t145 && (t140 == t146 && (t141.toList == t147.toList && (t142 == t148))))) = true := c45
                (try (have c45b1 : decide (t136 = (t139 == t145 && (t140 == t146 && (t141.toList == t147.toList && (t142 == t148))))) = true := by simpa using c45))
                (try (have c45b2 : (t136 == (t139 == t145 && (t140 == t146 && (t141.toList == t147.toList && (t142 == t148))))) = true := by simpa using c45))
                clear c45
                replace H := Option.bind_eq_some_iff.mp H
                obtain ⟨t151, A460, H⟩ := H
                replace H : (some t151) = some r := H
                have A46 := Aside0.mk A460
                clear A460
                obtain rfl := Option.some.inj H
                have hnb47 := NB144_134.out
                have hnc47 := NB134_144.out
                have hnb48 := NB144_135.out
                have hnc48 := NB135_144.out
                have hnb49 := NB144_150.out
                have hnc49 := NB150_144.out
                have hcz50_0 : wc.cell? ⟨gb144, 0, none⟩ = some (.int .i64 t139) := (blk_cell BK144.out 0).trans rfl
                have hcz50_1 : wc.cell? ⟨gb144, 1, none⟩ = some (.int .u64 t140) := (blk_cell BK144.out 1).trans rfl
                have hcz50_2 : wc.cell? ⟨gb144, 2, none⟩ = some (.string t141) := (blk_cell BK144.out 2).trans rfl
                have hcz50_3 : wc.cell? ⟨gb144, 3, none⟩ = some (.int .i64 t142) := (blk_cell BK144.out 3).trans rfl
                have hfz50_0 := blk_frozen BK144.out 0
                have hfz50_1 := blk_frozen BK144.out 1
                have hfz50_2 := blk_frozen BK144.out 2
                have hfz50_3 := blk_frozen BK144.out 3
                have hnb51 := NB150_134.out
                have hnc51 := NB134_150.out
                have hnb52 := NB150_135.out
                have hnc52 := NB135_150.out
                have hcz53_0 : wc.cell? ⟨gb150, 0, none⟩ = some (.int .i64 t145) := (blk_cell BK150.out 0).trans rfl
                have hcz53_1 : wc.cell? ⟨gb150, 1, none⟩ = some (.int .u64 t146) := (blk_cell BK150.out 1).trans rfl
                have hcz53_2 : wc.cell? ⟨gb150, 2, none⟩ = some (.string t147) := (blk_cell BK150.out 2).trans rfl
                have hcz53_3 : wc.cell? ⟨gb150, 3, none⟩ = some (.int .i64 t148) := (blk_cell BK150.out 3).trans rfl
                have hfz53_0 := blk_frozen BK150.out 0
                have hfz53_1 := blk_frozen BK150.out 1
                have hfz53_2 := blk_frozen BK150.out 2
                have hfz53_3 := blk_frozen BK150.out 3
                go_wp2_with (first | (go_at_call 7; (with_reducible refine (minstrellaw08_lives.calls kj27  t151 _ ?side1 A46.out).mono ?_); (case side1 => first | exact HG.out | exact globDrewN HG.out _ | exact globBelow HG.out (by repeat (first | (with_reducible first | exact HB.out | apply below_alloc | apply pw_below_drewN | apply below_drew1 | refine below_set ?_ GE134.out | refine below_set ?_ GE135.out | refine below_set ?_ GE144.out | refine below_set ?_ GE150.out) | exact HB.out)) | (repeat (first | exact HG.out | apply globDrewN | apply globDrew))); rintro e w54 ⟨rfl, hb⟩; have n0_ := Aside0.mk (blk_below (g := gb134) (o := .cells #[.int .i64 a0_0, .int .u64 a0_1, .string a0_2, .int .i64 a0_3] 25 (0, 0)) (by (with_reducible repeat (first | refine blk_drewN ?_ _ | refine blk_drew ?_ | refine blk_alloc ?_ _)); exact BK134.out) hb); have n1_ := Aside0.mk (blk_below (g := gb135) (o := .cells #[.int .i64 a1_0, .int .u64 a1_1, .string a1_2, .int .i64 a1_3] 25 (0, 0)) (by (with_reducible repeat (first | refine blk_drewN ?_ _ | refine blk_drew ?_ | refine blk_alloc ?_ _)); exact BK135.out) hb); have n2_ := Aside0.mk (blk_below (g := gb144) (o := .cells #[.int .i64 t139, .int .u64 t140, .string t141, .int .i64 t142] 25 (0, 0)) (by (with_reducible repeat (first | refine blk_drewN ?_ _ | refine blk_drew ?_ | refine blk_alloc ?_ _)); exact BK144.out) hb); have n3_ := Aside0.mk (blk_below (g := gb150) (o := .cells #[.int .i64 t145, .int .u64 t146, .string t147, .int .i64 t148] 25 (0, 0)) (by (with_reducible repeat (first | refine blk_drewN ?_ _ | refine blk_drew ?_ | refine blk_alloc ?_ _)); exact BK150.out) hb); have n4_ := Aside0.mk (below_step (by repeat (first | (with_reducible first | exact HB.out | apply below_alloc | apply pw_below_drewN | apply below_drew1 | refine below_set ?_ GE134.out | refine below_set ?_ GE135.out | refine below_set ?_ GE144.out | refine below_set ?_ GE150.out) | exact HB.out)) hb); clear BK134; clear BK135; clear BK144; clear BK150; clear HB; have BK134 := n0_; have BK135 := n1_; have BK144 := n2_; have BK150 := n3_; have HB := n4_; clear n0_ n1_ n2_ n3_ n4_; (try clear hb); (try clear hb2); (try clear hk); (try clear hi)))
                go_ret
                exact ⟨by first | rfl | (simp [errW_none, errW_some] <;> rfl) | (simp [*, errW_none, errW_some] <;> rfl), by repeat (first | (with_reducible first | exact HB.out | apply below_alloc | apply pw_below_drewN | apply below_drew1 | refine below_set ?_ GE134.out | refine below_set ?_ GE135.out | refine below_set ?_ GE144.out | refine below_set ?_ GE150.out) | exact HB.out)⟩
              · rw [if_neg c45] at H
                exact absurd H (by simp)
            · replace c44 := Bool.eq_false_iff.mpr c44
              subst c44
              have H1 : ((minstrelref08_Normal.f kj27 a0_0 a0_1 a0_2 a0_3).bind fun bt152 => (if bt152.1 = 0 then ((minstrelref08_Normal.f kj27 a1_0 a1_1 a1_2 a1_3).bind fun bt156 => (if (t136 == (bt156.1 == 0)) = true then ((minstrellaw08_lives.f kj27).bind fun t160 => (some t160)) else (none))) else (if (t136 == false) = true then ((minstrellaw08_lives.f kj27).bind fun t161 => (some t161)) else (none)))) = some r := by rw [if_neg (show ¬ (false = true) by decide)] at H; exact H
              clear H
              have H := H1
              clear H1
              replace H := Option.bind_eq_some_iff.mp H
              obtain ⟨⟨t152, t153, t154, t155⟩, A550, H⟩ := H
              replace H : (if t152 = 0 then ((minstrelref08_Normal.f kj27 a1_0 a1_1 a1_2 a1_3).bind fun bt156 => (if (t136 == (bt156.1 == 0)) = true then ((minstrellaw08_lives.f kj27).bind fun t160 => (some t160)) else (none))) else (if (t136 == false) = true then ((minstrellaw08_lives.f kj27).bind fun t161 => (some t161)) else (none))) = some r := H
              have A55 := Aside0.mk A550
              clear A550
              by_cases c56 : t152 = 0
              · rw [if_pos c56] at H
                have c56b0 : (t152 == 0) = true := beq_iff_eq.mpr c56
                have c56b1 : (t152 != 0) = false := bne_eq_false_iff_eq.mpr c56
                clear c56
                replace H := Option.bind_eq_some_iff.mp H
                obtain ⟨⟨t156, t157, t158, t159⟩, A570, H⟩ := H
                replace H : (if (t136 == (t156 == 0)) = true then ((minstrellaw08_lives.f kj27).bind fun t160 => (some t160)) else (none)) = some r := H
                have A57 := Aside0.mk A570
                clear A570
                by_cases c58 : (t136 == (t156 == 0)) = true
                · rw [if_pos c58] at H
                  have c58b0 : (t136 == (t156 == 0)) = true := c58
                  (try (have c58b1 : decide (t136 = (t156 == 0)) = true := by simpa using c58))
                  (try (have c58b2 : (t136 == (t156 == 0)) = true := by simpa using c58))
                  clear c58
                  replace H := Option.bind_eq_some_iff.mp H
                  obtain ⟨t160, A590, H⟩ := H
                  replace H : (some t160) = some r := H
                  have A59 := Aside0.mk A590
                  clear A590
                  obtain rfl := Option.some.inj H
                  have hnb60 := NB134_135.out
                  have hnc60 := NB135_134.out
                  have hnb61 := NB134_144.out
                  have hnc61 := NB144_134.out
                  have hnb62 := NB134_150.out
                  have hnc62 := NB150_134.out
                  have hcz63_0 : wc.cell? ⟨gb134, 0, none⟩ = some (.int .i64 a0_0) := (blk_cell BK134.out 0).trans rfl
                  have hcz63_1 : wc.cell? ⟨gb134, 1, none⟩ = some (.int .u64 a0_1) := (blk_cell BK134.out 1).trans rfl
                  have hcz63_2 : wc.cell? ⟨gb134, 2, none⟩ = some (.string a0_2) := (blk_cell BK134.out 2).trans rfl
                  have hcz63_3 : wc.cell? ⟨gb134, 3, none⟩ = some (.int .i64 a0_3) := (blk_cell BK134.out 3).trans rfl
                  have hfz63_0 := blk_frozen BK134.out 0
                  have hfz63_1 := blk_frozen BK134.out 1
                  have hfz63_2 := blk_frozen BK134.out 2
                  have hfz63_3 := blk_frozen BK134.out 3
                  go_wp2_with (first | ((with_reducible refine gate_callee (f := 10) rfl ?_); refine goesL_ (some 49) rfl rfl Tryd.func10 (by kernel_rfl) rfl #[.agg #[.int .i64 a0_0, .int .u64 a0_1, .string a0_2, .int .i64 a0_3]] rfl (by (try simp only [List.map_toArray, List.map_cons, List.map_nil]); first | done | rfl | (simp only [List.length_drop, List.length_take]; rfl)) ?_; (with_reducible refine (minstrelref08_Normal.calls kj27 a0_0 a0_1 a0_2 a0_3 t152 t153 t154 t155 _ A55.out).mono ?_); rintro e w64 ⟨rfl, hb⟩; refine ⟨_, rfl, ?_⟩; have n0_ := Aside0.mk (blk_below (g := gb134) (o := .cells #[.int .i64 a0_0, .int .u64 a0_1, .string a0_2, .int .i64 a0_3] 25 (0, 0)) (by (with_reducible repeat (first | refine blk_drewN ?_ _ | refine blk_drew ?_ | refine blk_alloc ?_ _)); exact BK134.out) hb); have n1_ := Aside0.mk (blk_below (g := gb135) (o := .cells #[.int .i64 a1_0, .int .u64 a1_1, .string a1_2, .int .i64 a1_3] 25 (0, 0)) (by (with_reducible repeat (first | refine blk_drewN ?_ _ | refine blk_drew ?_ | refine blk_alloc ?_ _)); exact BK135.out) hb); have n2_ := Aside0.mk (blk_below (g := gb144) (o := .cells #[.int .i64 t139, .int .u64 t140, .string t141, .int .i64 t142] 25 (0, 0)) (by (with_reducible repeat (first | refine blk_drewN ?_ _ | refine blk_drew ?_ | refine blk_alloc ?_ _)); exact BK144.out) hb); have n3_ := Aside0.mk (blk_below (g := gb150) (o := .cells #[.int .i64 t145, .int .u64 t146, .string t147, .int .i64 t148] 25 (0, 0)) (by (with_reducible repeat (first | refine blk_drewN ?_ _ | refine blk_drew ?_ | refine blk_alloc ?_ _)); exact BK150.out) hb); have n4_ := Aside0.mk (below_step (by repeat (first | (with_reducible first | exact HB.out | apply below_alloc | apply pw_below_drewN | apply below_drew1 | refine below_set ?_ GE134.out | refine below_set ?_ GE135.out | refine below_set ?_ GE144.out | refine below_set ?_ GE150.out) | exact HB.out)) hb); clear BK134; clear BK135; clear BK144; clear BK150; clear HB; have BK134 := n0_; have BK135 := n1_; have BK144 := n2_; have BK150 := n3_; have HB := n4_; clear n0_ n1_ n2_ n3_ n4_; (try clear hb); (try clear hb2); (try clear hk); (try clear hi); have hnb65 := NB135_144.out; have hnc65 := NB144_135.out; have hnb66 := NB135_150.out; have hnc66 := NB150_135.out; have hcz67_0 : w64.cell? ⟨gb135, 0, none⟩ = some (.int .i64 a1_0) := (blk_cell BK135.out 0).trans rfl; have hcz67_1 : w64.cell? ⟨gb135, 1, none⟩ = some (.int .u64 a1_1) := (blk_cell BK135.out 1).trans rfl; have hcz67_2 : w64.cell? ⟨gb135, 2, none⟩ = some (.string a1_2) := (blk_cell BK135.out 2).trans rfl; have hcz67_3 : w64.cell? ⟨gb135, 3, none⟩ = some (.int .i64 a1_3) := (blk_cell BK135.out 3).trans rfl; have hfz67_0 := blk_frozen BK135.out 0; have hfz67_1 := blk_frozen BK135.out 1; have hfz67_2 := blk_frozen BK135.out 2; have hfz67_3 := blk_frozen BK135.out 3) | (go_at_call 10; (with_reducible refine (minstrelref08_Normal.calls kj27 a1_0 a1_1 a1_2 a1_3 t156 t157 t158 t159 _ A57.out).mono ?_); rintro e w68 ⟨rfl, hb⟩; have n0_ := Aside0.mk (blk_below (g := gb134) (o := .cells #[.int .i64 a0_0, .int .u64 a0_1, .string a0_2, .int .i64 a0_3] 25 (0, 0)) (by (with_reducible repeat (first | refine blk_drewN ?_ _ | refine blk_drew ?_ | refine blk_alloc ?_ _)); exact BK134.out) hb); have n1_ := Aside0.mk (blk_below (g := gb135) (o := .cells #[.int .i64 a1_0, .int .u64 a1_1, .string a1_2, .int .i64 a1_3] 25 (0, 0)) (by (with_reducible repeat (first | refine blk_drewN ?_ _ | refine blk_drew ?_ | refine blk_alloc ?_ _)); exact BK135.out) hb); have n2_ := Aside0.mk (blk_below (g := gb144) (o := .cells #[.int .i64 t139, .int .u64 t140, .string t141, .int .i64 t142] 25 (0, 0)) (by (with_reducible repeat (first | refine blk_drewN ?_ _ | refine blk_drew ?_ | refine blk_alloc ?_ _)); exact BK144.out) hb); have n3_ := Aside0.mk (blk_below (g := gb150) (o := .cells #[.int .i64 t145, .int .u64 t146, .string t147, .int .i64 t148] 25 (0, 0)) (by (with_reducible repeat (first | refine blk_drewN ?_ _ | refine blk_drew ?_ | refine blk_alloc ?_ _)); exact BK150.out) hb); have n4_ := Aside0.mk (below_step (by repeat (first | (with_reducible first | exact HB.out | apply below_alloc | apply pw_below_drewN | apply below_drew1 | refine below_set ?_ GE134.out | refine below_set ?_ GE135.out | refine below_set ?_ GE144.out | refine below_set ?_ GE150.out) | exact HB.out)) hb); clear BK134; clear BK135; clear BK144; clear BK150; clear HB; have BK134 := n0_; have BK135 := n1_; have BK144 := n2_; have BK150 := n3_; have HB := n4_; clear n0_ n1_ n2_ n3_ n4_; (try clear hb); (try clear hb2); (try clear hk); (try clear hi)) | (go_at_call 7; (with_reducible refine (minstrellaw08_lives.calls kj27  t160 _ ?side1 A59.out).mono ?_); (case side1 => first | exact HG.out | exact globDrewN HG.out _ | exact globBelow HG.out (by repeat (first | (with_reducible first | exact HB.out | apply below_alloc | apply pw_below_drewN | apply below_drew1 | refine below_set ?_ GE134.out | refine below_set ?_ GE135.out | refine below_set ?_ GE144.out | refine below_set ?_ GE150.out) | exact HB.out)) | (repeat (first | exact HG.out | apply globDrewN | apply globDrew))); rintro e w69 ⟨rfl, hb⟩; have n0_ := Aside0.mk (blk_below (g := gb134) (o := .cells #[.int .i64 a0_0, .int .u64 a0_1, .string a0_2, .int .i64 a0_3] 25 (0, 0)) (by (with_reducible repeat (first | refine blk_drewN ?_ _ | refine blk_drew ?_ | refine blk_alloc ?_ _)); exact BK134.out) hb); have n1_ := Aside0.mk (blk_below (g := gb135) (o := .cells #[.int .i64 a1_0, .int .u64 a1_1, .string a1_2, .int .i64 a1_3] 25 (0, 0)) (by (with_reducible repeat (first | refine blk_drewN ?_ _ | refine blk_drew ?_ | refine blk_alloc ?_ _)); exact BK135.out) hb); have n2_ := Aside0.mk (blk_below (g := gb144) (o := .cells #[.int .i64 t139, .int .u64 t140, .string t141, .int .i64 t142] 25 (0, 0)) (by (with_reducible repeat (first | refine blk_drewN ?_ _ | refine blk_drew ?_ | refine blk_alloc ?_ _)); exact BK144.out) hb); have n3_ := Aside0.mk (blk_below (g := gb150) (o := .cells #[.int .i64 t145, .int .u64 t146, .string t147, .int .i64 t148] 25 (0, 0)) (by (with_reducible repeat (first | refine blk_drewN ?_ _ | refine blk_drew ?_ | refine blk_alloc ?_ _)); exact BK150.out) hb); have n4_ := Aside0.mk (below_step (by repeat (first | (with_reducible first | exact HB.out | apply below_alloc | apply pw_below_drewN | apply below_drew1 | refine below_set ?_ GE134.out | refine below_set ?_ GE135.out | refine below_set ?_ GE144.out | refine below_set ?_ GE150.out) | exact HB.out)) hb); clear BK134; clear BK135; clear BK144; clear BK150; clear HB; have BK134 := n0_; have BK135 := n1_; have BK144 := n2_; have BK150 := n3_; have HB := n4_; clear n0_ n1_ n2_ n3_ n4_; (try clear hb); (try clear hb2); (try clear hk); (try clear hi)))
                  go_ret
                  exact ⟨by first | rfl | (simp [errW_none, errW_some] <;> rfl) | (simp [*, errW_none, errW_some] <;> rfl), by repeat (first | (with_reducible first | exact HB.out | apply below_alloc | apply pw_below_drewN | apply below_drew1 | refine below_set ?_ GE134.out | refine below_set ?_ GE135.out | refine below_set ?_ GE144.out | refine below_set ?_ GE150.out) | exact HB.out)⟩
                · rw [if_neg c58] at H
                  exact absurd H (by simp)
              · rw [if_neg c56] at H
                have c56b0 : (t152 == 0) = false := beq_eq_false_iff_ne.mpr c56
                have c56b1 : (t152 != 0) = true := bne_iff_ne.mpr c56
                by_cases c70 : (t136 == false) = true
                · rw [if_pos c70] at H
                  have c70b0 : (t136 == false) = true := c70
                  (try (have c70b1 : decide (t136 = false) = true := by simpa using c70))
                  (try (have c70b2 : (t136 == false) = true := by simpa using c70))
                  clear c70
                  replace H := Option.bind_eq_some_iff.mp H
                  obtain ⟨t161, A710, H⟩ := H
                  replace H : (some t161) = some r := H
                  have A71 := Aside0.mk A710
                  clear A710
                  obtain rfl := Option.some.inj H
                  have hnb72 := NB134_135.out
                  have hnc72 := NB135_134.out
                  have hnb73 := NB134_144.out
                  have hnc73 := NB144_134.out
                  have hnb74 := NB134_150.out
                  have hnc74 := NB150_134.out
                  have hcz75_0 : wc.cell? ⟨gb134, 0, none⟩ = some (.int .i64 a0_0) := (blk_cell BK134.out 0).trans rfl
                  have hcz75_1 : wc.cell? ⟨gb134, 1, none⟩ = some (.int .u64 a0_1) := (blk_cell BK134.out 1).trans rfl
                  have hcz75_2 : wc.cell? ⟨gb134, 2, none⟩ = some (.string a0_2) := (blk_cell BK134.out 2).trans rfl
                  have hcz75_3 : wc.cell? ⟨gb134, 3, none⟩ = some (.int .i64 a0_3) := (blk_cell BK134.out 3).trans rfl
                  have hfz75_0 := blk_frozen BK134.out 0
                  have hfz75_1 := blk_frozen BK134.out 1
                  have hfz75_2 := blk_frozen BK134.out 2
                  have hfz75_3 := blk_frozen BK134.out 3
                  go_wp2_with (first | ((with_reducible refine gate_callee (f := 10) rfl ?_); refine goesL_ (some 49) rfl rfl Tryd.func10 (by kernel_rfl) rfl #[.agg #[.int .i64 a0_0, .int .u64 a0_1, .string a0_2, .int .i64 a0_3]] rfl (by (try simp only [List.map_toArray, List.map_cons, List.map_nil]); first | done | rfl | (simp only [List.length_drop, List.length_take]; rfl)) ?_; (with_reducible refine (minstrelref08_Normal.calls kj27 a0_0 a0_1 a0_2 a0_3 t152 t153 t154 t155 _ A55.out).mono ?_); rintro e w76 ⟨rfl, hb⟩; refine ⟨_, rfl, ?_⟩; have n0_ := Aside0.mk (blk_below (g := gb134) (o := .cells #[.int .i64 a0_0, .int .u64 a0_1, .string a0_2, .int .i64 a0_3] 25 (0, 0)) (by (with_reducible repeat (first | refine blk_drewN ?_ _ | refine blk_drew ?_ | refine blk_alloc ?_ _)); exact BK134.out) hb); have n1_ := Aside0.mk (blk_below (g := gb135) (o := .cells #[.int .i64 a1_0, .int .u64 a1_1, .string a1_2, .int .i64 a1_3] 25 (0, 0)) (by (with_reducible repeat (first | refine blk_drewN ?_ _ | refine blk_drew ?_ | refine blk_alloc ?_ _)); exact BK135.out) hb); have n2_ := Aside0.mk (blk_below (g := gb144) (o := .cells #[.int .i64 t139, .int .u64 t140, .string t141, .int .i64 t142] 25 (0, 0)) (by (with_reducible repeat (first | refine blk_drewN ?_ _ | refine blk_drew ?_ | refine blk_alloc ?_ _)); exact BK144.out) hb); have n3_ := Aside0.mk (blk_below (g := gb150) (o := .cells #[.int .i64 t145, .int .u64 t146, .string t147, .int .i64 t148] 25 (0, 0)) (by (with_reducible repeat (first | refine blk_drewN ?_ _ | refine blk_drew ?_ | refine blk_alloc ?_ _)); exact BK150.out) hb); have n4_ := Aside0.mk (below_step (by repeat (first | (with_reducible first | exact HB.out | apply below_alloc | apply pw_below_drewN | apply below_drew1 | refine below_set ?_ GE134.out | refine below_set ?_ GE135.out | refine below_set ?_ GE144.out | refine below_set ?_ GE150.out) | exact HB.out)) hb); clear BK134; clear BK135; clear BK144; clear BK150; clear HB; have BK134 := n0_; have BK135 := n1_; have BK144 := n2_; have BK150 := n3_; have HB := n4_; clear n0_ n1_ n2_ n3_ n4_; (try clear hb); (try clear hb2); (try clear hk); (try clear hi)) | (go_at_call 7; (with_reducible refine (minstrellaw08_lives.calls kj27  t161 _ ?side1 A71.out).mono ?_); (case side1 => first | exact HG.out | exact globDrewN HG.out _ | exact globBelow HG.out (by repeat (first | (with_reducible first | exact HB.out | apply below_alloc | apply pw_below_drewN | apply below_drew1 | refine below_set ?_ GE134.out | refine below_set ?_ GE135.out | refine below_set ?_ GE144.out | refine below_set ?_ GE150.out) | exact HB.out)) | (repeat (first | exact HG.out | apply globDrewN | apply globDrew))); rintro e w77 ⟨rfl, hb⟩; have n0_ := Aside0.mk (blk_below (g := gb134) (o := .cells #[.int .i64 a0_0, .int .u64 a0_1, .string a0_2, .int .i64 a0_3] 25 (0, 0)) (by (with_reducible repeat (first | refine blk_drewN ?_ _ | refine blk_drew ?_ | refine blk_alloc ?_ _)); exact BK134.out) hb); have n1_ := Aside0.mk (blk_below (g := gb135) (o := .cells #[.int .i64 a1_0, .int .u64 a1_1, .string a1_2, .int .i64 a1_3] 25 (0, 0)) (by (with_reducible repeat (first | refine blk_drewN ?_ _ | refine blk_drew ?_ | refine blk_alloc ?_ _)); exact BK135.out) hb); have n2_ := Aside0.mk (blk_below (g := gb144) (o := .cells #[.int .i64 t139, .int .u64 t140, .string t141, .int .i64 t142] 25 (0, 0)) (by (with_reducible repeat (first | refine blk_drewN ?_ _ | refine blk_drew ?_ | refine blk_alloc ?_ _)); exact BK144.out) hb); have n3_ := Aside0.mk (blk_below (g := gb150) (o := .cells #[.int .i64 t145, .int .u64 t146, .string t147, .int .i64 t148] 25 (0, 0)) (by (with_reducible repeat (first | refine blk_drewN ?_ _ | refine blk_drew ?_ | refine blk_alloc ?_ _)); exact BK150.out) hb); have n4_ := Aside0.mk (below_step (by repeat (first | (with_reducible first | exact HB.out | apply below_alloc | apply pw_below_drewN | apply below_drew1 | refine below_set ?_ GE134.out | refine below_set ?_ GE135.out | refine below_set ?_ GE144.out | refine below_set ?_ GE150.out) | exact HB.out)) hb); clear BK134; clear BK135; clear BK144; clear BK150; clear HB; have BK134 := n0_; have BK135 := n1_; have BK144 := n2_; have BK150 := n3_; have HB := n4_; clear n0_ n1_ n2_ n3_ n4_; (try clear hb); (try clear hb2); (try clear hk); (try clear hi)))
                  go_ret
                  exact ⟨by first | rfl | (simp [errW_none, errW_some] <;> rfl) | (simp [*, errW_none, errW_some] <;> rfl), by repeat (first | (with_reducible first | exact HB.out | apply below_alloc | apply pw_below_drewN | apply below_drew1 | refine below_set ?_ GE134.out | refine below_set ?_ GE135.out | refine below_set ?_ GE144.out | refine below_set ?_ GE150.out) | exact HB.out)⟩
                · rw [if_neg c70] at H
                  exact absurd H (by simp)
end Go.Proofs.YtongfmeediokmaaDoor.Ps
end
section
namespace Go.Proofs.YtongfmeediokmaaDoor.Pure
open Go.RowKit Go.Proofs.YtongfmeediokmaaDoor.Pr Go.Proofs.YtongfmeediokmaaDoor.Flo Go.Proofs.YtongfmeediokmaaDoorW.PrintWords Go.Proofs.YtongfmeediokmaaDoorW.PrintLast Go.Proofs.YtongfmeediokmaaDoorW.PrintMore
abbrev Vl := Int × Int × ByteArray × Int
def canonV (n : Int) : Int := if nanB n.toNat = true then 9221120237041090560 else n
def normV (v : Vl) : Vl :=
 if v.1 = 1 then (1, 0, ⟨#[]⟩, 0) else if v.1 = 2 then (2, 0, ⟨#[]⟩, 0) else if v.1 = 3 then (3, canonV v.2.1, ⟨#[]⟩, 0) else if v.1 = 4 then (4, 0, v.2.2.1, 0)
 else if 5 ≤ v.1 ∧ v.1 ≤ 8 then (v.1, 0, ⟨#[]⟩, v.2.2.2) else (0, 0, ⟨#[]⟩, 0)
def okN (v : Vl) : Prop := 0 ≤ v.2.1 ∧ v.2.1 < 18446744073709551616
theorem canon_ok {n : Int} (h : 0 ≤ n ∧ n < 18446744073709551616) : flo_canon.f n = some (canonV n) := by
 unfold flo_canon.f
 rw [if_pos h]
 rfl
theorem canonV_ok {n : Int} (h : 0 ≤ n ∧ n < 18446744073709551616) : 0 ≤ canonV n ∧ canonV n < 18446744073709551616 := by
 unfold canonV
 split
 ·omega
 ·exact h
theorem nought_ok : (0 : Int) ≤ 0 ∧ (0 : Int) < 18446744073709551616 := by decide
theorem okN_norm {v : Vl} (h : okN v) : okN (normV v) := by
 unfold normV okN
 split
 ·exact nought_ok
 split
 ·exact nought_ok
 split
 ·exact canonV_ok h
 split
 ·exact nought_ok
 split
 ·exact nought_ok
 ·exact nought_ok
theorem normal_ev (k n : Int) (s : ByteArray) (o : Int) (hn : 0 ≤ n ∧ n < 18446744073709551616) : Ev (fun j => value_normal.f j k n s o) (normV (k, n, s, o)) := by
 delta value_normal.f
 unfold normV
 by_cases h1 : k = 1
 ·subst h1
  simp only [if_true]
  apply Ev.step
  ·intro j
   rw [value_normal.j0]
  simp only [beq_self_eq_true, if_true]
  exact Ev.now _
 ·simp only [if_neg h1]
  apply Ev.step
  ·intro j
   rw [value_normal.j0]
  by_cases h2 : k = 2
  ·subst h2
   simp only [beq_self_eq_true, if_true]
   exact Ev.now _
  ·have e2 : (k == 2) = false := beq_eq_false_iff_ne.2 h2
   simp only [e2, Bool.false_eq_true, if_false, if_neg h2]
   by_cases h3 : k = 3
   ·subst h3
    simp only [if_true, flo_Canon.f, canon_ok hn, Option.bind_some]
    exact Ev.now _
   ·simp only [if_neg h3]
    by_cases h4 : k = 4
    ·subst h4
     simp only [if_true]
     exact Ev.now _
    ·simp only [if_neg h4]
     by_cases h5 : k = 5
     ·subst h5; simp only [if_true, if_pos (show (5 : Int) ≤ 5 ∧ (5 : Int) ≤ 8 by decide)]; exact Ev.now _
     by_cases h6 : k = 6
     ·subst h6; simp only [if_true, if_neg (show ¬ (6 : Int) = 5 by decide), if_pos (show (5 : Int) ≤ 6 ∧ (6 : Int) ≤ 8 by decide)]; exact Ev.now _
     by_cases h7 : k = 7
     ·subst h7; simp only [if_true, if_neg (show ¬ (7 : Int) = 5 by decide), if_neg (show ¬ (7 : Int) = 6 by decide), if_pos (show (5 : Int) ≤ 7 ∧ (7 : Int) ≤ 8 by decide)]; exact Ev.now _
     by_cases h8 : k = 8
     ·subst h8; simp only [if_true, if_neg (show ¬ (8 : Int) = 5 by decide), if_neg (show ¬ (8 : Int) = 6 by decide), if_neg (show ¬ (8 : Int) = 7 by decide), if_pos (show (5 : Int) ≤ 8 ∧ (8 : Int) ≤ 8 by decide)]; exact Ev.now _
     simp only [if_neg h5, if_neg h6, if_neg h7, if_neg h8, if_neg (show ¬ (5 ≤ k ∧ k ≤ 8) by omega)]
     exact Ev.now _
def sameV (x y : Vl) : Bool := if x.1 = 3 ∧ y.1 = 3 then eqB x.2.1.toNat y.2.1.toNat else (x.1 == y.1 && (x.2.1 == y.2.1 && (x.2.2.1.toList == y.2.2.1.toList && (x.2.2.2 == y.2.2.2))))
theorem same_ev (a b : Vl) (ha : okN a) (hb : okN b) : Ev (fun j => value_Same.f j a.1 a.2.1 a.2.2.1 a.2.2.2 b.1 b.2.1 b.2.2.1 b.2.2.2) (sameV (normV a) (normV b)) := by
 delta value_Same.f
 have oa := okN_norm ha
 have ob := okN_norm hb
 refine Ev.bind (normal_ev _ _ _ _ ha) (Ev.bind (normal_ev _ _ _ _ hb) ?_)
 show Ev (fun j => if (normV a).1 = 3 then (if (normV b).1 = 3 then _ else _) else _) _
 unfold sameV
 generalize normV a = x at oa ⊢
 generalize normV b = y at ob ⊢
 by_cases h1 : x.1 = 3
 ·by_cases h2 : y.1 = 3
  ·simp only [if_pos h1, if_pos h2, if_pos (show x.1 = 3 ∧ y.1 = 3 from ⟨h1, h2⟩), flo_Equal.f, if_pos (show (0 ≤ x.2.1 ∧ x.2.1 < 18446744073709551616) ∧ 0 ≤ y.2.1 ∧ y.2.1 < 18446744073709551616 from ⟨oa, ob⟩), Option.bind_some]
   exact Ev.now _
  ·simp only [if_pos h1, if_neg h2, if_neg (show ¬ (x.1 = 3 ∧ y.1 = 3) from fun h => h2 h.2)]
   exact Ev.now _
 ·simp only [if_neg h1, if_neg (show ¬ (x.1 = 3 ∧ y.1 = 3) from fun h => h1 h.1)]
  exact Ev.now _
theorem toList_eq {a b : ByteArray} (h : a.toList = b.toList) : a = b := by
 rw [Go.ByteArray.toList_eq, Go.ByteArray.toList_eq] at h
 exact Go.WideShapes.bytes_inj h
theorem sameV_iff (x y : Vl) : sameV x y = true ↔ (x.1 = 3 ∧ y.1 = 3 ∧ eqB x.2.1.toNat y.2.1.toNat = true) ∨ (¬ (x.1 = 3 ∧ y.1 = 3) ∧ x = y) := by
 obtain ⟨x0, x1, x2, x3⟩ := x
 obtain ⟨y0, y1, y2, y3⟩ := y
 unfold sameV
 by_cases h : x0 = 3 ∧ y0 = 3
 ·rw [if_pos (show (x0, x1, x2, x3).1 = 3 ∧ (y0, y1, y2, y3).1 = 3 from h)]
  exact ⟨fun g => .inl ⟨h.1, h.2, g⟩, fun g => by
   rcases g with g | g
   ·exact g.2.2
   ·exact absurd h g.1⟩
 ·rw [if_neg (show ¬ ((x0, x1, x2, x3).1 = 3 ∧ (y0, y1, y2, y3).1 = 3) from h)]
  simp only [Bool.and_eq_true, beq_iff_eq]
  constructor
  ·rintro ⟨rfl, rfl, h2, rfl⟩
   exact .inr ⟨h, by rw [toList_eq h2]⟩
  ·rintro (g | ⟨_, g⟩)
   ·exact absurd ⟨g.1, g.2.1⟩ h
   ·injection g with g0 g; injection g with g1 g; injection g with g2 g3
    exact ⟨g0, g1, by rw [g2], g3⟩
theorem eqB_comm (a b : Nat) : eqB a b = eqB b a := by
 unfold eqB
 have h1 : decide (a = b) = decide (b = a) := by rw [decide_eq_decide]; exact ⟨Eq.symm, Eq.symm⟩
 rw [h1, Bool.and_comm (!nanB a), Bool.and_comm (decide (rung a = 0))]
theorem eqB_iff (a b : Nat) : eqB a b = true ↔ nanB a = false ∧ nanB b = false ∧ (a = b ∨ (rung a = 0 ∧ rung b = 0)) := by
 unfold eqB
 simp only [Bool.and_eq_true, Bool.or_eq_true, decide_eq_true_eq, Bool.not_eq_true', and_assoc]
theorem sameV_comm (x y : Vl) : sameV x y = sameV y x := by
 rw [Bool.eq_iff_iff, sameV_iff, sameV_iff, eqB_comm]
 constructor
 ·rintro (⟨a, b, c⟩ | ⟨a, b⟩)
  ·exact .inl ⟨b, a, c⟩
  ·exact .inr ⟨fun h => a ⟨h.2, h.1⟩, b.symm⟩
 ·rintro (⟨a, b, c⟩ | ⟨a, b⟩)
  ·exact .inl ⟨b, a, c⟩
  ·exact .inr ⟨fun h => a ⟨h.2, h.1⟩, b.symm⟩
end Go.Proofs.YtongfmeediokmaaDoor.Pure
end
section
namespace Go.Proofs.YtongfmeediokmaaDoor.Pure
open Go.RowKit Go.Proofs.YtongfmeediokmaaDoor.Pr Go.Proofs.YtongfmeediokmaaDoor.Flo Go.Proofs.YtongfmeediokmaaDoorW.PrintWords Go.Proofs.YtongfmeediokmaaDoorW.PrintLast Go.Proofs.YtongfmeediokmaaDoorW.PrintMore
theorem bits_and (n m : Nat) (j : Nat) (hn : n < 2 ^ 64) (hm : m = 2 ^ j - 1) (hj : m < 2 ^ 64) : Go.bits .and .u64 (n : Int) (m : Int) = ((n % 2 ^ j : Nat) : Int) := by
 unfold Go.bits
 rw [show IntKind.u64.bits = 64 from rfl]
 simp only [BitVec.toNat_and]
 rw [BitVec.ofInt_natCast, BitVec.toNat_ofNat, Nat.mod_eq_of_lt hn, BitVec.ofInt_natCast, BitVec.toNat_ofNat, Nat.mod_eq_of_lt hj, hm, Nat.and_two_pow_sub_one_eq_mod]
 have : n % 2 ^ j ≤ n := Nat.mod_le _ _
 generalize n % 2 ^ j = u at this ⊢
 unfold IntKind.wrap
 simp [IntKind.bits, IntKind.signed]
 omega
theorem bitsE (n : Nat) (hn : n < 18446744073709551616) : Go.bits .and .u64 ((n : Int) / 4503599627370496) 2047 = ((n / 4503599627370496 % 2048 : Nat) : Int) := by
 have e1 : ((n : Int) / 4503599627370496) = ((n / 4503599627370496 : Nat) : Int) := by omega
 rw [e1]
 exact bits_and (n / 4503599627370496) 2047 11 (by omega) (by decide) (by decide)
theorem bitsF (n : Nat) (hn : n < 18446744073709551616) : Go.bits .and .u64 (n : Int) 4503599627370495 = ((n % 4503599627370496 : Nat) : Int) :=
 bits_and n 4503599627370495 52 (by omega) (by decide) (by decide)
theorem rung_eq (n : Nat) : rung n = n / 4503599627370496 % 2048 * 4503599627370496 + n % 4503599627370496 := by
 unfold rung
 omega
theorem Kind_ev (n : Nat) (hn : n < 18446744073709551616) : Ev (fun k => minstrelref01_Kind.f k (n : Int)) (kindV n) := by
 delta minstrelref01_Kind.f
 rw [bitsE n hn, bitsF n hn]
 have hr := rung_eq n
 unfold kindV nanB infB
 have he : n / 4503599627370496 % 2048 < 2048 := Nat.mod_lt _ (by decide)
 have hf : n % 4503599627370496 < 4503599627370496 := Nat.mod_lt _ (by decide)
 generalize n / 4503599627370496 % 2048 = e at hr he
 generalize n % 4503599627370496 = f at hr hf
 generalize rung n = r at hr
 by_cases h1 : e = 2047
 ·subst h1
  simp only [if_pos (show ((2047 : Nat) : Int) = 2047 from rfl)]
  by_cases h2 : f = 0
  ·subst h2
   have hb : (((0 : Nat) : Int) != 0) = false := rfl
   simp only [hb]
   apply Ev.step
   ·intro k
    rw [minstrelref01_Kind.j0]
   rw [decide_eq_false (show ¬ 9218868437227405312 < r by omega), decide_eq_true (show r = 9218868437227405312 by omega)]
   simp only [Bool.false_eq_true, if_false, if_neg (show ¬ r = 0 by omega), if_true]
   exact Ev.now _
  ·have hb : ((f : Int) != 0) = true := bne_iff_ne.2 (by omega)
   simp only [hb]
   apply Ev.step
   ·intro k
    rw [minstrelref01_Kind.j0]
   rw [decide_eq_true (show 9218868437227405312 < r by omega)]
   simp only [if_true]
   exact Ev.now _
 ·simp only [if_neg (show ¬ (e : Int) = 2047 by omega)]
  apply Ev.step
  ·intro k
   rw [minstrelref01_Kind.j0]
  rw [decide_eq_false (show ¬ 9218868437227405312 < r by omega), decide_eq_false (show ¬ r = 9218868437227405312 by omega)]
  simp only [Bool.false_eq_true, if_false, if_neg (show ¬ (e : Int) = 2047 by omega)]
  by_cases h3 : e = 0
  ·subst h3
   simp only [if_pos (show ((0 : Nat) : Int) = 0 from rfl)]
   apply Ev.step
   ·intro k
    rw [minstrelref01_Kind.j1]
   by_cases h4 : f = 0
   ·subst h4
    rw [show (((0 : Nat) : Int) == 0) = true from rfl]
    simp only [if_true, if_pos (show r = 0 by omega)]
    exact Ev.now _
   ·rw [show ((f : Int) == 0) = false from beq_eq_false_iff_ne.2 (by omega)]
    simp only [Bool.false_eq_true, if_false, if_pos (show ((0 : Nat) : Int) = 0 from rfl), if_neg (show ¬ r = 0 by omega), if_pos (show r < 4503599627370496 by omega)]
    exact Ev.now _
  ·simp only [if_neg (show ¬ (e : Int) = 0 by omega)]
   apply Ev.step
   ·intro k
    rw [minstrelref01_Kind.j1]
   simp only [Bool.false_eq_true, if_false, if_neg (show ¬ (e : Int) = 0 by omega), if_neg (show ¬ r = 0 by omega), if_neg (show ¬ r < 4503599627370496 by omega)]
   exact Ev.now _
theorem kind_nan (n : Nat) : kindV n = 4 ↔ nanB n = true := by
 unfold kindV
 split
 ·simp [*]
 ·rename_i h
  constructor
  ·intro g
   split at g
   ·exact absurd g (by decide)
   ·split at g
    ·exact absurd g (by decide)
    ·split at g <;> exact absurd g (by decide)
  ·intro g
   exact absurd g h
theorem kind_zero (n : Nat) : kindV n = 0 ↔ rung n = 0 := by
 unfold kindV
 constructor
 ·intro g
  split at g
  ·exact absurd g (by decide)
  ·split at g
   ·assumption
   ·split at g
    ·exact absurd g (by decide)
    ·split at g <;> exact absurd g (by decide)
 ·intro g
  have : nanB n = false := decide_eq_false (by omega)
  rw [this, if_neg (by decide), if_pos g]
theorem nat_of {a : Int} (h : 0 ≤ a ∧ a < 18446744073709551616) : ∃ n : Nat, a = (n : Int) ∧ n < 18446744073709551616 ∧ a.toNat = n := ⟨a.toNat, by omega, by omega, rfl⟩
theorem Canon_ev (a : Int) (h : 0 ≤ a ∧ a < 18446744073709551616) : Ev (fun k => minstrelref01_Canon.f k a) (canonV a) := by
 obtain ⟨n, rfl, hn, e⟩ := nat_of h
 delta minstrelref01_Canon.f
 refine Ev.bind (Kind_ev n hn) ?_
 unfold canonV
 rw [e]
 by_cases hk : kindV n = 4
 ·simp only [if_pos hk, if_pos ((kind_nan n).1 hk), minstrelref01_Nan.f, Option.bind_some]
  exact Ev.now _
 ·simp only [if_neg hk, if_neg (show ¬ nanB n = true from fun g => hk ((kind_nan n).2 g))]
  exact Ev.now _
theorem refNormal_ev (k n : Int) (s : ByteArray) (o : Int) (hn : 0 ≤ n ∧ n < 18446744073709551616) : Ev (fun j => minstrelref08_Normal.f j k n s o) (normV (k, n, s, o)) := by
 delta minstrelref08_Normal.f
 unfold normV
 by_cases h3 : k = 3
 ·subst h3
  simp only [if_true, if_neg (show ¬ (3 : Int) = 1 by decide), if_neg (show ¬ (3 : Int) = 2 by decide)]
  exact Ev.bind (Canon_ev n hn) (Ev.now _)
 ·simp only [if_neg h3]
  by_cases h4 : k = 4
  ·subst h4
   simp only [if_true, if_neg (show ¬ (4 : Int) = 1 by decide), if_neg (show ¬ (4 : Int) = 2 by decide)]
   exact Ev.now _
  ·simp only [if_neg h4]
   by_cases h5 : k ≥ 5
   ·simp only [if_pos h5, if_neg (show ¬ k = 1 by omega), if_neg (show ¬ k = 2 by omega)]
    apply Ev.step
    ·intro j
     rw [minstrelref08_Normal.j0]
    by_cases h8 : k ≤ 8
    ·simp only [decide_eq_true h8, if_true, if_pos (show 5 ≤ k ∧ k ≤ 8 from ⟨h5, h8⟩)]
     exact Ev.now _
    ·simp only [decide_eq_false h8, Bool.false_eq_true, if_false, if_neg (show ¬ (5 ≤ k ∧ k ≤ 8) by omega), if_neg (show ¬ k = 1 by omega), if_neg (show ¬ k = 2 by omega)]
     exact Ev.now _
   ·simp only [if_neg h5, if_neg (show ¬ (5 ≤ k ∧ k ≤ 8) by omega)]
    apply Ev.step
    ·intro j
     rw [minstrelref08_Normal.j0]
    simp only [Bool.false_eq_true, if_false]
    by_cases h1 : k = 1
    ·subst h1
     simp only [if_true]
     exact Ev.now _
    ·simp only [if_neg h1]
     by_cases h2 : k = 2
     ·subst h2
      simp only [if_true]
      exact Ev.now _
     ·simp only [if_neg h2]
      exact Ev.now _
end Go.Proofs.YtongfmeediokmaaDoor.Pure
end
section
namespace Go.Proofs.YtongfmeediokmaaDoor.Pure
open Go.RowKit Go.Proofs.YtongfmeediokmaaDoor.Pr Go.Proofs.YtongfmeediokmaaDoor.Flo Go.Proofs.YtongfmeediokmaaDoorW.PrintWords Go.Proofs.YtongfmeediokmaaDoorW.PrintLast Go.Proofs.YtongfmeediokmaaDoorW.PrintMore
theorem bitsN (n : Nat) (hn : n < 18446744073709551616) : Go.bits .andNot .u64 (n : Int) 9223372036854775808 = (rung n : Int) := by
 unfold Go.bits
 rw [show IntKind.u64.bits = 64 from rfl]
 simp only [BitVec.toNat_and, BitVec.toNat_not]
 rw [BitVec.ofInt_natCast, BitVec.toNat_ofNat, Nat.mod_eq_of_lt (show n < 2 ^ 64 from hn), show (2 ^ 64 - 1 - (BitVec.ofInt 64 9223372036854775808).toNat) = 2 ^ 63 - 1 from rfl, Nat.and_two_pow_sub_one_eq_mod]
 unfold rung
 have : n % 9223372036854775808 < 9223372036854775808 := Nat.mod_lt _ (by decide)
 show IntKind.u64.wrap ((n % 9223372036854775808 : Nat) : Int) = _
 generalize n % 9223372036854775808 = u at this ⊢
 unfold IntKind.wrap
 simp [IntKind.bits, IntKind.signed]
 omega
theorem refNeg_eq (n : Nat) (hn : n < 18446744073709551616) : minstrelref01_Neg.f (n : Int) = some (negB n) := by
 unfold minstrelref01_Neg.f negB
 congr 1
 rw [Bool.eq_iff_iff, beq_iff_eq, beq_iff_eq]
 omega
theorem j0_path (a b : Nat) (ha : a < 18446744073709551616) (hb : b < 18446744073709551616) : ∃ v, Ev (fun k => minstrelref01_Order.j0 k (a : Int) (b : Int) false) v ∧ (v == 0) = decide (a = b) := by
 by_cases hn : negB a = negB b
 ·by_cases hr : rung a = rung b
  ·refine ⟨0, ?_, by rw [decide_eq_true (word_of ha hb hr hn)]; rfl⟩
   apply Ev.step
   ·intro k
    rw [minstrelref01_Order.j0]
   simp only [Bool.false_eq_true, if_false, refNeg_eq a ha, refNeg_eq b hb, Option.bind_some, hn, bne_self_eq_false, bitsN a ha, bitsN b hb, hr, if_true]
   exact Ev.now _
  ·have hab : decide (a = b) = false := decide_eq_false (fun h => hr (by rw [h]))
   refine ⟨if (decide ((rung a : Int) < (rung b : Int)) != negB a) = true then -1 else 1, ?_, ?_⟩
   ·apply Ev.step
    ·intro k
     rw [minstrelref01_Order.j0]
    simp only [Bool.false_eq_true, if_false, refNeg_eq a ha, refNeg_eq b hb, Option.bind_some, hn, bne_self_eq_false, bitsN a ha, bitsN b hb, if_neg (show ¬ (rung a : Int) = (rung b : Int) by omega)]
    by_cases hd : (decide ((rung a : Int) < (rung b : Int)) != negB b) = true
    ·simp only [if_pos hd]; exact Ev.now _
    ·simp only [if_neg hd]; exact Ev.now _
   ·rw [hab]
    split <;> rfl
 ·have hab : decide (a = b) = false := decide_eq_false (fun h => hn (by rw [h]))
  have hne : (negB a != negB b) = true := bne_iff_ne.2 hn
  refine ⟨if negB a = true then -1 else 1, ?_, ?_⟩
  ·apply Ev.step
   ·intro k
    rw [minstrelref01_Order.j0]
   simp only [Bool.false_eq_true, if_false, refNeg_eq a ha, refNeg_eq b hb, Option.bind_some, hne, if_true]
   by_cases hd : negB a = true
   ·simp only [if_pos hd]; exact Ev.now _
   ·simp only [if_neg hd]; exact Ev.now _
  ·rw [hab]
   split <;> rfl
theorem Order_ev (a b : Nat) (ha : a < 18446744073709551616) (hb : b < 18446744073709551616) : ∃ v, Ev (fun k => minstrelref01_Order.f k (a : Int) (b : Int)) v ∧ (v == 0) = (decide (a = b) || (decide (rung a = 0) && decide (rung b = 0))) := by
 obtain ⟨v, h1, h2⟩ := j0_path a b ha hb
 by_cases ka : kindV a = 0
 ·have za := (kind_zero a).1 ka
  by_cases kb : kindV b = 0
  ·have zb := (kind_zero b).1 kb
   refine ⟨0, ?_, by rw [decide_eq_true za, decide_eq_true zb]; simp⟩
   delta minstrelref01_Order.f
   refine Ev.bind (Kind_ev a ha) ?_
   simp only [if_pos ka]
   refine Ev.bind (Kind_ev b hb) ?_
   rw [show (kindV b == 0) = true from beq_iff_eq.2 kb]
   apply Ev.step
   ·intro k
    rw [minstrelref01_Order.j0]
   simp only [if_true]
   exact Ev.now _
  ·have zb : ¬ rung b = 0 := fun h => kb ((kind_zero b).2 h)
   refine ⟨v, ?_, by rw [h2, decide_eq_false zb]; simp⟩
   delta minstrelref01_Order.f
   refine Ev.bind (Kind_ev a ha) ?_
   simp only [if_pos ka]
   refine Ev.bind (Kind_ev b hb) ?_
   rw [show (kindV b == 0) = false from beq_eq_false_iff_ne.2 kb]
   exact h1
 ·have za : ¬ rung a = 0 := fun h => ka ((kind_zero a).2 h)
  refine ⟨v, ?_, by rw [h2, decide_eq_false za]; simp⟩
  delta minstrelref01_Order.f
  refine Ev.bind (Kind_ev a ha) ?_
  simp only [if_neg ka]
  exact h1
theorem Equal_ev (a b : Int) (ha : 0 ≤ a ∧ a < 18446744073709551616) (hb : 0 ≤ b ∧ b < 18446744073709551616) : Ev (fun k => minstrelref01_Equal.f k a b) (eqB a.toNat b.toNat) := by
 obtain ⟨n, rfl, hn, en⟩ := nat_of ha
 obtain ⟨m, rfl, hm, em⟩ := nat_of hb
 rw [en, em]
 delta minstrelref01_Equal.f
 refine Ev.bind (Kind_ev n hn) ?_
 unfold eqB
 by_cases h1 : kindV n = 4
 ·rw [(kind_nan n).1 h1]
  simp only [if_pos h1]
  exact Ev.now _
 ·have e1 : nanB n = false := Bool.eq_false_iff.2 (fun g => h1 ((kind_nan n).2 g))
  rw [e1]
  simp only [if_neg h1]
  refine Ev.bind (Kind_ev m hm) ?_
  by_cases h2 : kindV m = 4
  ·rw [(kind_nan m).1 h2]
   simp only [if_pos h2]
   exact Ev.now _
  ·have e2 : nanB m = false := Bool.eq_false_iff.2 (fun g => h2 ((kind_nan m).2 g))
   rw [e2]
   simp only [if_neg h2]
   obtain ⟨v, h3, h4⟩ := Order_ev n m hn hm
   refine Ev.bind h3 ?_
   simp only [h4, Bool.not_false, Bool.true_and]
   exact Ev.now _
def Nm (x : Vl) : Prop := (x.1 = 3 → x.2.2.1 = ⟨#[]⟩ ∧ x.2.2.2 = 0) ∧ (¬ x.1 = 3 → x.2.1 = 0) ∧ (x.1 = 0 → x = (0, 0, ⟨#[]⟩, 0)) ∧ okN x ∧ 0 ≤ x.1 ∧ x.1 ≤ 8
theorem nm_norm {v : Vl} (h : okN v) : Nm (normV v) := by
 have ho := okN_norm h
 unfold Nm
 refine ⟨?_, ?_, ?_, ho, ?_⟩
 all_goals
  unfold normV
  split
  ·first | (intro g; exact absurd g (by decide)) | (intro _; rfl) | exact ⟨by decide, by decide⟩
  split
  ·first | (intro g; exact absurd g (by decide)) | (intro _; rfl) | exact ⟨by decide, by decide⟩
  split
  ·first | (intro g; exact ⟨rfl, rfl⟩) | (intro g; exact absurd rfl g) | (intro g; exact absurd (show (3 : Int) = 0 from g) (by decide)) | exact ⟨by show (0 : Int) ≤ 3; decide, by show (3 : Int) ≤ 8; decide⟩
  split
  ·first | (intro g; exact absurd (show (4 : Int) = 3 from g) (by decide)) | (intro _; rfl) | (intro g; exact absurd (show (4 : Int) = 0 from g) (by decide)) | exact ⟨by show (0 : Int) ≤ 4; decide, by show (4 : Int) ≤ 8; decide⟩
  split
  ·rename_i g5
   first | (intro g; exact absurd (show v.1 = 3 from g) (by omega)) | (intro _; rfl) | (intro g; exact absurd (show v.1 = 0 from g) (by omega)) | exact ⟨by show 0 ≤ v.1; omega, g5.2⟩
  ·first | (intro g; exact absurd (show (0 : Int) = 3 from g) (by decide)) | (intro _; rfl) | exact ⟨by decide, by decide⟩
theorem refSame_ev (a b : Vl) (ha : okN a) (hb : okN b) : Ev (fun j => minstrelref08_Same.f j a.1 a.2.1 a.2.2.1 a.2.2.2 b.1 b.2.1 b.2.2.1 b.2.2.2) (sameV (normV a) (normV b)) := by
 delta minstrelref08_Same.f
 have na := nm_norm ha
 have nb := nm_norm hb
 refine Ev.bind (refNormal_ev _ _ _ _ ha) (Ev.bind (refNormal_ev _ _ _ _ hb) ?_)
 show Ev (fun j => if (normV a).1 = (normV b).1 then _ else _) _
 unfold sameV
 generalize normV a = x at na ⊢
 generalize normV b = y at nb ⊢
 by_cases h1 : x.1 = y.1
 ·simp only [if_pos h1]
  by_cases h2 : x.1 = 3
  ·simp only [if_pos h2, if_pos (show x.1 = 3 ∧ y.1 = 3 from ⟨h2, h1 ▸ h2⟩)]
   exact Ev.bind (Equal_ev _ _ na.2.2.2.1 nb.2.2.2.1) (Ev.now _)
  ·have e1 := na.2.1 h2
   have e2 := nb.2.1 (fun g => h2 (h1.trans g))
   have h2' : ¬ y.1 = 3 := fun g => h2 (h1.trans g)
   simp only [h1, if_neg h2', if_neg (show ¬ (y.1 = 3 ∧ y.1 = 3) from fun g => h2' g.1), e1, e2, beq_self_eq_true, Bool.true_and]
   by_cases h3 : x.2.2.1.toList = y.2.2.1.toList
   ·simp only [if_pos h3, h3, beq_self_eq_true, Bool.true_and, if_true]
    exact Ev.now _
   ·simp only [if_neg h3, show (x.2.2.1.toList == y.2.2.1.toList) = false from beq_eq_false_iff_ne.2 h3, Bool.false_and]
    exact Ev.now _
 ·simp only [if_neg h1, if_neg (show ¬ (x.1 = 3 ∧ y.1 = 3) from fun g => h1 (g.1.trans g.2.symm)), show (x.1 == y.1) = false from beq_eq_false_iff_ne.2 h1, Bool.false_and]
  exact Ev.now _
abbrev Ky := Int × Int × ByteArray × Int × Bool
def keyV (x : Vl) : Ky := if x.1 = 0 ∨ (x.1 = 3 ∧ nanB x.2.1.toNat = true) then (0, 0, ⟨#[]⟩, 0, false) else if x.1 = 3 ∧ rung x.2.1.toNat = 0 then (x.1, 0, x.2.2.1, x.2.2.2, true) else (x.1, x.2.1, x.2.2.1, x.2.2.2, true)
theorem floKind_eq {a : Int} (h : 0 ≤ a ∧ a < 18446744073709551616) : flo_Kind.f a = some (kindV a.toNat) := by
 unfold flo_Kind.f flo_kind.f
 rw [if_pos h]
 rfl
theorem key_ev (v : Vl) (h : okN v) : Ev (fun k => value_Key.f k v.1 v.2.1 v.2.2.1 v.2.2.2) (keyV (normV v)) := by
 delta value_Key.f
 have nv := nm_norm h
 refine Ev.bind (normal_ev _ _ _ _ h) ?_
 show Ev (fun k => if (normV v).1 = 0 then _ else _) _
 generalize normV v = x at nv ⊢
 unfold keyV
 by_cases h0 : x.1 = 0
 ·simp only [if_pos h0, if_pos (show x.1 = 0 ∨ (x.1 = 3 ∧ nanB x.2.1.toNat = true) from .inl h0)]
  apply Ev.step
  ·intro k
   rw [value_Key.j0]
  simp only [if_true]
  exact Ev.now _
 ·simp only [if_neg h0]
  by_cases h3 : x.1 = 3
  ·simp only [if_pos h3, floKind_eq nv.2.2.2.1, Option.bind_some]
   by_cases hn : nanB x.2.1.toNat = true
   ·rw [show (kindV x.2.1.toNat == 4) = true from beq_iff_eq.2 ((kind_nan _).2 hn)]
    simp only [if_pos (show x.1 = 0 ∨ (x.1 = 3 ∧ nanB x.2.1.toNat = true) from .inr ⟨h3, hn⟩)]
    apply Ev.step
    ·intro k
     rw [value_Key.j0]
    simp only [if_true]
    exact Ev.now _
   ·rw [show (kindV x.2.1.toNat == 4) = false from beq_eq_false_iff_ne.2 (fun g => hn ((kind_nan _).1 g))]
    simp only [if_neg (show ¬ (x.1 = 0 ∨ (x.1 = 3 ∧ nanB x.2.1.toNat = true)) from fun g => g.elim h0 (fun g => hn g.2))]
    apply Ev.step
    ·intro k
     rw [value_Key.j0]
    simp only [Bool.false_eq_true, if_false, if_pos h3, floKind_eq nv.2.2.2.1, Option.bind_some]
    by_cases hz : rung x.2.1.toNat = 0
    ·simp only [if_pos ((kind_zero _).2 hz), if_pos (show x.1 = 3 ∧ rung x.2.1.toNat = 0 from ⟨h3, hz⟩)]
     exact Ev.now _
    ·simp only [if_neg (show ¬ kindV x.2.1.toNat = 0 from fun g => hz ((kind_zero _).1 g)), if_neg (show ¬ (x.1 = 3 ∧ rung x.2.1.toNat = 0) from fun g => hz g.2)]
     exact Ev.now _
  ·simp only [if_neg h3, if_neg (show ¬ (x.1 = 0 ∨ (x.1 = 3 ∧ nanB x.2.1.toNat = true)) from fun g => g.elim h0 (fun g => h3 g.1)), if_neg (show ¬ (x.1 = 3 ∧ rung x.2.1.toNat = 0) from fun g => h3 g.1)]
   apply Ev.step
   ·intro k
    rw [value_Key.j0]
   simp only [Bool.false_eq_true, if_false, if_neg h3]
   exact Ev.now _
end Go.Proofs.YtongfmeediokmaaDoor.Pure
end
section
namespace Go.Proofs.YtongfmeediokmaaDoor.Pure
open Go.RowKit Go.Proofs.YtongfmeediokmaaDoor.Pr Go.Proofs.YtongfmeediokmaaDoor.Ps Go.Proofs.YtongfmeediokmaaDoor.Flo Go.Proofs.YtongfmeediokmaaDoorW.PrintWords Go.Proofs.YtongfmeediokmaaDoorW.PrintLast Go.Proofs.YtongfmeediokmaaDoorW.PrintMore
theorem lives_trueS : minstrellaw08_lives.f 200 = some true := by kernel_rfl
theorem lives_evS : Ev (fun k => minstrellaw08_lives.f k) true := Ev.of minstrellaw08_lives.mono lives_trueS
theorem num_okS {n : Int} (h : (Lit.int .u64 n).wf = true) : 0 ≤ n ∧ n < 18446744073709551616 := by
 simp [Lit.wf, IntKind.min, IntKind.max, IntKind.signed, IntKind.bits] at h
 omega
theorem key_flag (x : Vl) : (keyV x).2.2.2.2 = true ↔ ¬ (x.1 = 0 ∨ (x.1 = 3 ∧ nanB x.2.1.toNat = true)) := by
 unfold keyV
 by_cases h : x.1 = 0 ∨ (x.1 = 3 ∧ nanB x.2.1.toNat = true)
 ·rw [if_pos h]
  exact ⟨fun g => absurd g (by decide), fun g => absurd h g⟩
 ·rw [if_neg h]
  refine ⟨fun _ => h, fun _ => ?_⟩
  split <;> rfl
theorem key_some {x : Vl} (h : (keyV x).2.2.2.2 = true) : keyV x = (x.1, (if x.1 = 3 ∧ rung x.2.1.toNat = 0 then 0 else x.2.1), x.2.2.1, x.2.2.2, true) := by
 have g := (key_flag x).1 h
 unfold keyV
 rw [if_neg g]
 split <;> rfl
theorem keyEq {x y : Vl} (nx : Nm x) (ny : Nm y) (hx : (keyV x).2.2.2.2 = true) (hy : (keyV y).2.2.2.2 = true) :
  sameV x y = ((keyV x).1 == (keyV y).1 && ((keyV x).2.1 == (keyV y).2.1 && ((keyV x).2.2.1.toList == (keyV y).2.2.1.toList && ((keyV x).2.2.2.1 == (keyV y).2.2.2.1)))) := by
 have gx := (key_flag x).1 hx
 have gy := (key_flag y).1 hy
 rw [key_some hx, key_some hy]
 unfold sameV
 by_cases hb : x.1 = 3 ∧ y.1 = 3
 ·obtain ⟨h1, h2⟩ := hb
  have ex := nx.1 h1
  have ey := ny.1 h2
  have bx := nx.2.2.2.1
  have by' := ny.2.2.2.1
  have e1 : nanB x.2.1.toNat = false := Bool.eq_false_iff.2 (fun g => gx (.inr ⟨h1, g⟩))
  have e2 : nanB y.2.1.toNat = false := Bool.eq_false_iff.2 (fun g => gy (.inr ⟨h2, g⟩))
  have z0 : rung (0 : Int).toNat = 0 := rfl
  simp only [if_pos (show x.1 = 3 ∧ y.1 = 3 from ⟨h1, h2⟩), h1, h2, ex.1, ex.2, ey.1, ey.2, beq_self_eq_true, Bool.true_and, Bool.and_true, true_and, and_self, if_true]
  rw [Bool.eq_iff_iff, eqB_iff, beq_iff_eq]
  simp only [e1, e2, true_and]
  unfold okN at bx by'
  by_cases r1 : rung x.2.1.toNat = 0
  ·by_cases r2 : rung y.2.1.toNat = 0
   ·rw [if_pos r1, if_pos r2]
    exact ⟨fun _ => rfl, fun _ => .inr ⟨r1, r2⟩⟩
   ·rw [if_pos r1, if_neg r2]
    constructor
    ·rintro (g | ⟨_, g⟩)
     ·exact absurd (by rw [← g]; exact r1) r2
     ·exact absurd g r2
    ·intro g
     exact absurd (by rw [← g]; exact z0) r2
  ·by_cases r2 : rung y.2.1.toNat = 0
   ·rw [if_neg r1, if_pos r2]
    constructor
    ·rintro (g | ⟨g, _⟩)
     ·exact absurd (by rw [g]; exact r2) r1
     ·exact absurd g r1
    ·intro g
     exact absurd (by rw [g]; exact z0) r1
   ·rw [if_neg r1, if_neg r2]
    constructor
    ·rintro (g | ⟨g, _⟩)
     ·omega
     ·exact absurd g r1
    ·intro g
     exact .inl (by rw [g])
 ·rw [if_neg hb]
  by_cases h1 : x.1 = y.1
  ·have h2 : ¬ x.1 = 3 := fun g => hb ⟨g, h1 ▸ g⟩
   have h3 : ¬ y.1 = 3 := fun g => hb ⟨h1.trans g, g⟩
   rw [if_neg (fun g => h2 g.1), if_neg (fun g => h3 g.1)]
  ·have : (x.1 == y.1) = false := beq_eq_false_iff_ne.2 h1
   simp only [this, Bool.false_and]
theorem keyNone {x y : Vl} (nx : Nm x) (ny : Nm y) (h : (keyV x).2.2.2.2 = false ∨ (keyV y).2.2.2.2 = false) : (x.1 = 0 → sameV x y = (y.1 == 0)) ∧ (¬ x.1 = 0 → sameV x y = false) := by
 constructor
 ·intro h0
  have ex := nx.2.2.1 h0
  rw [ex]
  by_cases h1 : y.1 = 0
  ·rw [ny.2.2.1 h1]; simp [sameV]
  ·unfold sameV
   rw [if_neg (fun g => absurd (show (0 : Int) = 3 from g.1) (by decide))]
   have e1 : ((0 : Int) == y.1) = false := beq_eq_false_iff_ne.2 (fun g => h1 g.symm)
   have e2 : (y.1 == 0) = false := beq_eq_false_iff_ne.2 h1
   show ((0 : Int) == y.1 && _) = _
   rw [e1, e2]
   rfl
 ·intro h0
  have fx : (keyV x).2.2.2.2 = false → x.1 = 3 ∧ nanB x.2.1.toNat = true := fun g => by
   have : ¬ ¬ (x.1 = 0 ∨ (x.1 = 3 ∧ nanB x.2.1.toNat = true)) := fun k => by rw [(key_flag x).2 k] at g; cases g
   rcases Classical.not_not.1 this with k | k
   ·exact absurd k h0
   ·exact k
  have fy : (keyV y).2.2.2.2 = false → y.1 = 0 ∨ (y.1 = 3 ∧ nanB y.2.1.toNat = true) := fun g => by
   have : ¬ ¬ (y.1 = 0 ∨ (y.1 = 3 ∧ nanB y.2.1.toNat = true)) := fun k => by rw [(key_flag y).2 k] at g; cases g
   exact Classical.not_not.1 this
  rw [Bool.eq_false_iff]
  intro hs
  rw [sameV_iff] at hs
  rcases hs with ⟨a, b, c⟩ | ⟨a, b⟩
  ·rw [eqB_iff] at c
   rcases h with h | h
   ·rw [(fx h).2] at c; exact absurd c.1 (by decide)
   ·rcases fy h with g | g
    ·omega
    ·rw [g.2] at c; exact absurd c.2.1 (by decide)
  ·subst b
   rcases h with h | h
   ·exact a ⟨(fx h).1, (fx h).1⟩
   ·rcases fy h with g | g
    ·exact h0 g
    ·exact a ⟨g.1, g.1⟩
theorem ValueSame (k0 n0 : Int) (s0 : ByteArray) (o0 k1 n1 : Int) (s1 : ByteArray) (o1 : Int)
  (wk0 : (Lit.int .i64 k0).wf = true) (wn0 : (Lit.int .u64 n0).wf = true) (wo0 : (Lit.int .i64 o0).wf = true) (ms0 : s0.size ≤ maxLen) (z0 : s0.size ≤ 140737488351232)
  (wk1 : (Lit.int .i64 k1).wf = true) (wn1 : (Lit.int .u64 n1).wf = true) (wo1 : (Lit.int .i64 o1).wf = true) (ms1 : s1.size ≤ maxLen) (z1 : s1.size ≤ 140737488351232) :
  ∃ k, minstrellaw08_ValueSame.f k k0 n0 s0 o0 k1 n1 s1 o1 = some true := by
 apply Ev.rounds
 have ha : okN (k0, n0, s0, o0) := num_okS wn0
 have hb : okN (k1, n1, s1, o1) := num_okS wn1
 have hab := same_ev _ _ ha hb
 have hra := refSame_ev _ _ ha hb
 have hba := same_ev _ _ hb ha
 have hcm := sameV_comm (normV (k1, n1, s1, o1)) (normV (k0, n0, s0, o0))
 rw [hcm] at hba
 have hka := key_ev _ ha
 have hkb := key_ev _ hb
 have hna := refNormal_ev k0 n0 s0 o0 ha
 have hnb := refNormal_ev k1 n1 s1 o1 hb
 have nx := nm_norm ha
 have ny := nm_norm hb
 have hl := lives_evS
 generalize normV (k0, n0, s0, o0) = x at *
 generalize normV (k1, n1, s1, o1) = y at *
 have h1 := @keyEq x y nx ny
 have h2 := @keyNone x y nx ny
 generalize keyV x = kx at *
 generalize keyV y = ky at *
 generalize sameV x y = s at *
 delta minstrellaw08_ValueSame.f
 refine Ev.bind hab (Ev.bind hra ?_)
 simp only [bne_self_eq_false, Bool.false_eq_true, if_false]
 refine Ev.bind hba ?_
 simp only [bne_self_eq_false]
 apply Ev.step
 ·intro k
  rw [minstrellaw08_ValueSame.j0]
 simp only [Bool.false_eq_true, if_false]
 refine Ev.bind hka (Ev.bind hkb ?_)
 have none_ : (kx.2.2.2.2 = false ∨ ky.2.2.2.2 = false) → Ev (fun k => minstrellaw08_ValueSame.j1 k s false k0 n0 s0 o0 k1 n1 s1 o1 kx.1 kx.2.1 kx.2.2.1 kx.2.2.2.1 ky.1 ky.2.1 ky.2.2.1 ky.2.2.2.1) true := fun hf => by
  obtain ⟨g1, g2⟩ := h2 hf
  apply Ev.step
  ·intro k
   rw [minstrellaw08_ValueSame.j1]
  simp only [Bool.false_eq_true, if_false]
  refine Ev.bind hna ?_
  by_cases h0 : x.1 = 0
  ·simp only [if_pos h0]
   refine Ev.bind hnb ?_
   rw [g1 h0]
   simp only [beq_self_eq_true, if_true]
   exact Ev.bind hl (Ev.now _)
  ·simp only [if_neg h0]
   rw [g2 h0]
   simp only [beq_self_eq_true, if_true]
   exact Ev.bind hl (Ev.now _)
 by_cases hx : kx.2.2.2.2 = true
 ·simp only [if_pos hx]
  by_cases hy : ky.2.2.2.2 = true
  ·rw [hy]
   apply Ev.step
   ·intro k
    rw [minstrellaw08_ValueSame.j1]
   have := h1 hx hy
   have hs := beq_iff_eq.2 this
   simp only [if_true, hs]
   exact Ev.bind hl (Ev.now _)
  ·rw [Bool.not_eq_true] at hy
   rw [hy]
   exact none_ (.inr hy)
 ·simp only [if_neg hx]
  exact none_ (.inl (by rwa [Bool.not_eq_true] at hx))
end Go.Proofs.YtongfmeediokmaaDoor.Pure
end
section
namespace Go.Proofs.YtongfmeediokmaaDoor.Pr
open Go.RowKit
def strData {H : Type} (bs : List ByteArray) : DataW H := .agg (bs.map fun b => .lit (.string b.data.toList))
theorem cells_of_strs {H : Type} {enc : TypeId × Value → H} {P : Program} {w : World} {base : Nat} {sp : Nat → Bool} {held : Bool} {fuel : Nat} {t e : TypeId} {n : Nat} {cs : List Value} {zs : List ByteArray} {p : List MemPlace}
  (ht : P.underlying t = some (.array n e)) (he : P.underlying e = some .string) (hce : P.cellsOf e = 1) (hct : P.cellsOf t = n)
  (h : DataW.trod enc P w base sp held fuel t cs = some (strData zs, p)) : cs = zs.map fun z => Value.string z := by
 cases fuel with
 | zero => simp [DataW.trod] at h
 | succ fuel =>
  simp only [DataW.trod, ht, hce, hct, Nat.mul_one] at h
  split at h
  ·rename_i hl
   obtain ⟨xs, hm, hx⟩ := Option.map_eq_some_iff.1 h
   have hxs : xs.map (·.1) = zs.map fun z => (DataW.lit (.string z.data.toList) : DataW H) := by
    have := congrArg Prod.fst hx
    simpa [strData] using this
   have hxl : xs.length = n := by simpa using Lib.mapM_length hm
   have hzl : zs.length = n := by
    have := congrArg List.length hxs
    simp at this
    omega
   apply List.ext_getElem?
   intro i
   by_cases hi : i < n
   ·obtain ⟨b, hb, hf⟩ := Lib.mapM_at hm i i (by simp [hi])
    obtain ⟨z, hc, hz, _⟩ := DataW.trod_string he hf
    have h1 : cs[i]? = some (.string z) := by
     have := congrArg (·[0]?) hc
     simpa [List.getElem?_take, List.getElem?_drop] using this
    have h2 : (xs.map (·.1))[i]? = some (DataW.lit (.string z.data.toList) : DataW H) := by simp [hb, hz]
    rw [hxs] at h2
    simp only [List.getElem?_map, Option.map_eq_some_iff, DataW.lit.injEq, Lit.string.injEq] at h2
    obtain ⟨z', hz', hzz⟩ := h2
    have : z' = z := by
     cases z'; cases z
     congr 1
     exact Array.toList_inj.1 hzz
    subst this
    simp [h1, hz']
   ·rw [List.getElem?_eq_none (by omega), List.getElem?_eq_none (by simp; omega)]
  ·cases h
def StrsAre (P : Program) (w : World) (name : String) (zs : List ByteArray) : Prop := w.var? P name = some (zs.map fun z => Value.string z).toArray
theorem strsAre_of_head {P : Program} {W : World} {name : String} {zs : List ByteArray} {rest : List (String × DataW Unit)} {g : Nat} {t e : TypeId} {n : Nat}
  (hg : P.globalNamed name = some g) (hty : (P.globals[g]?).map (·.type) = some t) (ht : P.underlying t = some (.array n e)) (he : P.underlying e = some .string) (hce : P.cellsOf e = 1) (hct : P.cellsOf t = n)
  (h : laidMet P ((name, strData zs) :: rest) W) : StrsAre P W name zs := by
 obtain ⟨ps, ⟨g', t', cs, fuel, p, q, hg', ht', hvar, hd, _, _⟩, _⟩ := h
 obtain rfl := Option.some.inj (hg.symm.trans hg')
 obtain rfl := Option.some.inj (hty.symm.trans ht')
 unfold StrsAre
 rw [hvar, ← cells_of_strs ht he hce hct hd]
theorem StrsAre.cell {P : Program} {W : World} {name : String} {zs : List ByteArray} {g : Nat} (h : StrsAre P W name zs) (hg : P.globalNamed name = some g) (i : Nat) (hi : i < zs.length) :
  W.cell? ⟨g, i, none⟩ = some (.string (zs.getD i ⟨#[]⟩)) := by
 have := World.var?_cell hg h i
 simpa [List.getD, hi] using this
end Go.Proofs.YtongfmeediokmaaDoor.Pr
end
section
namespace Go.Proofs.YtongfmeediokmaaDoor.Pr
open Go.ChangeShapes Go.WideShapes Go.RowKit
set_option maxRecDepth 100000
theorem open_value {H : Type} {enc : TypeId × Value → H} {w : World} {r : Reach} {b0 : Nat} {v : Value} {d : DataW H} {ps : List MemPlace} (hval : Value.okWide Tryd.prog w r b0 25 v) (hd : DataW.Trod enc Tryd.prog w 0 (fun _ => true) true 25 v d ps) :
  ∃ (k n : Int) (s : ByteArray) (o : Int), v = .agg #[.int .i64 k, .int .u64 n, .string s, .int .i64 o] ∧
   (Lit.int .i64 k).wf = true ∧ (Lit.int .u64 n).wf = true ∧ s.size ≤ maxLen ∧ (Lit.int .i64 o).wf = true ∧
   ((∀ n ∈ d.weights Tryd.prog 25, n ≤ reachBytes) → s.size ≤ 140737488351232) := by
 obtain ⟨cs, rfl, hsz⟩ := Go.WideShapes.okWide_struct Tryd.underlying25 hval
 obtain ⟨fuel, h⟩ := hd
 obtain ⟨xs, n, hn, hx, hl, hlen, hf⟩ := DataW.trod_struct Tryd.underlying25 h
 obtain ⟨rfl, -⟩ := Prod.mk.inj hx
 obtain ⟨cs⟩ := cs
 have hl4 : cs.length = 4 := hl
 obtain ⟨v0, v1, v2, v3, rfl⟩ : ∃ v0 v1 v2 v3, cs = [v0, v1, v2, v3] := by
  match cs, hl4 with
  | [a, b, c, d], _ => exact ⟨a, b, c, d, rfl⟩
 have hxl : xs.length = 4 := hlen
 obtain ⟨y0, y1, y2, y3, rfl⟩ : ∃ y0 y1 y2 y3, xs = [y0, y1, y2, y3] := by
  match xs, hxl with
  | [a, b, c, d], _ => exact ⟨a, b, c, d, rfl⟩
 have g0 : DataW.trod enc Tryd.prog w 0 (fun _ => true) true n 3 [v0] = some y0 := hf 0 _ rfl
 have g1 : DataW.trod enc Tryd.prog w 0 (fun _ => true) true n 23 [v1] = some y1 := hf 1 _ rfl
 have g2 : DataW.trod enc Tryd.prog w 0 (fun _ => true) true n 9 [v2] = some y2 := hf 2 _ rfl
 have g3 : DataW.trod enc Tryd.prog w 0 (fun _ => true) true n 3 [v3] = some y3 := hf 3 _ rfl
 obtain ⟨k, e0, _, w0⟩ := DataW.trod_int Tryd.underlying3 g0
 obtain ⟨m, e1, _, w1⟩ := DataW.trod_int Tryd.underlying23 g1
 obtain ⟨S, e2, z2, w2⟩ := DataW.trod_string Tryd.underlying9 g2
 obtain ⟨o, e3, _, w3⟩ := DataW.trod_int Tryd.underlying3 g3
 injection e0 with e0 _
 injection e1 with e1 _
 injection e2 with e2 _
 injection e3 with e3 _
 refine ⟨k, m, S, o, ?_, w0, w1, w2, w3, fun hall => ?_⟩
 ·rw [e0, e1, e2, e3]
 ·have hfs : ∀ n, n ∈ (y2.1.weights Tryd.prog 9) → n ∈ DataW.weights Tryd.prog 25 (.agg [y0.1, y1.1, y2.1, y3.1]) := by
   intro n hn
   simp only [DataW.weights, Tryd.underlying25]
   show n ∈ DataW.weightsEach Tryd.prog [3, 23, 9, 3] [y0.1, y1.1, y2.1, y3.1]
   simp only [DataW.weightsEach, List.mem_append, List.append_nil]
   exact .inr (.inr (.inl hn))
  have := hall S.size (hfs _ (by rw [z2]; simp [DataW.weights, Array.length_toList]))
  exact this
end Go.Proofs.YtongfmeediokmaaDoor.Pr
end
