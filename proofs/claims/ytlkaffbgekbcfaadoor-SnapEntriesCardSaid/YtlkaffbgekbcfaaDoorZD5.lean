/- A part of the proof of the law that RowSnapEntries shows: lemmas, and contracts of the calls that it reaches. -/
import Derived.Test.YtlkaffbgekbcfaaDoorProg
import Derived.Below
import Derived.Deep.Draws
import Derived.Deep.AppendLies
import Derived.Maps.AppendAt
import Derived.OwnWalk
import Derived.Laws.BytesArg
import Derived.Laws.MakeOwn
import Derived.Laws.OwnMore
import Derived.Deep.OwnRows
import Derived.Tactics
import Derived.Lib.ConvBytes
import Derived.Laws.Slices
import Derived.WalkKit
import Derived.KernelRfl
import Derived.RowKit3
import Derived.Deep.LoopGhost
import Derived.Deep.QuietTactic
import Derived.BigQuiet
import Derived.WideLaws
import Derived.Deep.DeepCutAuto
import Derived.Deep.CutBlock
import Derived.Deep.RegionHeld3
import Derived.Laws.Rows
import Derived.Lib.AppendStr
import Derived.ArgAppend
import Derived.Laws.IdiomCopy
import Derived.OrdersHeld
import Derived.Laws.BitsLemmas
import Derived.RowKit
import Derived.Test.YtlkaffbgekbcfaaDoorZD0
import Derived.Test.YtlkaffbgekbcfaaDoorZD1
import Derived.Test.YtlkaffbgekbcfaaDoorZD2
import Derived.Test.YtlkaffbgekbcfaaDoorZD3
import Derived.Test.YtlkaffbgekbcfaaDoorZD4
import Derived.Laws.Bits64b
import Derived.ChangeArms
import Derived.OpenShut
import Derived.Laws.BitsAllLaws
import Derived.Deep.RegionWith
set_option linter.unusedVariables false
set_option linter.unusedSimpArgs false
section
namespace Go.Proofs.YtlkaffbgekbcfaaDoor.Pr
open Go.RowKit Go.Proofs.YtlkaffbgekbcfaaDoorW.PrintWords Go.Proofs.YtlkaffbgekbcfaaDoorW.PrintLast Go.Proofs.YtlkaffbgekbcfaaDoorW.PrintMore
attribute [local go_sem] max2_int min2_int max_two min_two max_three min_three max_four min_four
mutual
def minstrellaw19_SnapEntries.j0 : Nat → Bool → Int → Int → ByteArray → List Int → Int → Int → ByteArray → List (S26) → Option (Bool)
 | 0, _, _, _, _, _, _, _, _, _ => none
 | k + 1, x23, x845000, x845001, x845002, x845003, x846000, x846001, x846002, x846003 => if x23 = true then ((minstrellaw19_lives.f k).bind fun t847 => (some t847)) else ((snap_EntryCell.f k x845000 x845001 x845002 x845003).bind fun bt848 => ((minstrelref19_EntryCell.f k x845000 x845001 x845002 x845003).bind fun bt856 => ((minstrelref07_Same.f k bt848.1 bt848.2.1 bt848.2.2.1 bt848.2.2.2.1 bt856.1 bt856.2.1 bt856.2.2.1 bt856.2.2.2.1).bind fun t864 => (if t864 = true then (minstrellaw19_SnapEntries.j1 k bt848.2.2.2.2 (bt848.2.2.2.2 != bt856.2.2.2.2) x845000 x845001 x845002 x845003 x846000 x846001 x846002 x846003 bt848.1 bt848.2.1 bt848.2.2.1 bt848.2.2.2.1) else (minstrellaw19_SnapEntries.j1 k bt848.2.2.2.2 true x845000 x845001 x845002 x845003 x846000 x846001 x846002 x846003 bt848.1 bt848.2.1 bt848.2.2.1 bt848.2.2.2.1)))))
def minstrellaw19_SnapEntries.j1 : Nat → Int → Bool → Int → Int → ByteArray → List Int → Int → Int → ByteArray → List (S26) → Int → Int → ByteArray → List (S26) → Option (Bool)
 | 0, _, _, _, _, _, _, _, _, _, _, _, _, _, _ => none
 | k + 1, x6, x43, x845000, x845001, x845002, x845003, x846000, x846001, x846002, x846003, x856000, x856001, x856002, x856003 => if x43 = true then (none) else ((minstrelref07_Own.f k x846000 x846001 x846002 x846003).bind fun bt865 => ((snap_FromEntry.f k bt865.1 bt865.2.1 bt865.2.2.1 bt865.2.2.2).bind fun bt871 => ((minstrelref19_FromEntry.f k x846000 x846001 x846002 x846003).bind fun bt879 => (if bt871.2.2.2.2 = bt879.2.2.2.2 then ((minstrelref19_Same.f k bt871.1 bt871.2.1 bt871.2.2.1 bt871.2.2.2.1 bt879.1 bt879.2.1 bt879.2.2.1 bt879.2.2.2.1).bind fun t887 => (minstrellaw19_SnapEntries.j2 k x6 (!t887) x845000 x845001 x845002 x845003 x856000 x856001 x856002 x856003)) else (minstrellaw19_SnapEntries.j2 k x6 true x845000 x845001 x845002 x845003 x856000 x856001 x856002 x856003)))))
def minstrellaw19_SnapEntries.j2 : Nat → Int → Bool → Int → Int → ByteArray → List Int → Int → Int → ByteArray → List (S26) → Option (Bool)
 | 0, _, _, _, _, _, _, _, _, _, _ => none
 | k + 1, x6, x63, x845000, x845001, x845002, x845003, x856000, x856001, x856002, x856003 => if x63 = true then (none) else (if x6 = 0 then ((snap_FromEntry.f k x856000 x856001 x856002 x856003).bind fun bt889 => (if bt889.2.2.2.2 = 0 then ((minstrelref19_Plain.f x845000 x845001 x845002 x845003).bind fun bt897 => ((minstrelref19_Same.f k bt889.1 bt889.2.1 bt889.2.2.1 bt889.2.2.2.1 bt897.1 bt897.2.1 bt897.2.2.1 bt897.2.2.2).bind fun t903 => (if t903 = true then ((minstrellaw19_lives.f k).bind fun t904 => (some t904)) else (none)))) else (none))) else ((minstrellaw19_lives.f k).bind fun t888 => (some t888)))
end
def minstrellaw19_SnapEntries.f (k : Nat) (a0_0 : Int) (a0_1 : Int) (a0_2 : ByteArray) (l0_3 : List Int) (a1_0 : Int) (a1_1 : Int) (a1_2 : ByteArray) (l1_3 : List (S26)) : Option (Bool) := (minstrellaw19_small.f k a1_0 a1_1 a1_2 l1_3).bind fun t846 => (if t846 = true then (minstrellaw19_SnapEntries.j0 k (decide ((l0_3.length : Int) > 1000)) a0_0 a0_1 a0_2 l0_3 a1_0 a1_1 a1_2 l1_3) else (minstrellaw19_SnapEntries.j0 k true a0_0 a0_1 a0_2 l0_3 a1_0 a1_1 a1_2 l1_3))
def minstrellaw19_SnapEntries.T14 : Bool × List (List Nat × List Nat) := (true, [([], []), ([0], [0]), ([1], [1]), ([2], [2]), ([2], [2]), ([4, 2, 2], [2, 4]), ([3, 5, 5, 2], [2, 3, 5]), ([2, 6], [2, 6]), ([7, 6], [7]), ([8, 8], [8]), ([8, 9], [8, 9]), ([10, 9, 0, 1, 2, 3, 4, 5, 6, 7, 8, 9, 10], [10])])
def minstrellaw19_SnapEntries.B14 : List Nat := [0, 1, 3, 7, 7, 23, 63, 127, 255, 511, 1023, 2047]
theorem minstrellaw19_SnapEntries.tab14 : rtab .any (opsOf Tryd.f6 14) = minstrellaw19_SnapEntries.T14 := by kernel_rfl
theorem minstrellaw19_SnapEntries.bits14 : waitsOk minstrellaw19_SnapEntries.T14.2 minstrellaw19_SnapEntries.B14 = true := by kernel_rfl
set_option maxHeartbeats 8000000 in
set_option maxRecDepth 100000 in
theorem minstrellaw19_SnapEntries.calls (k : Nat) (a0_0 : Int) (a0_1 : Int) (a0_2 : ByteArray) (A0_3 : Option Addr) (c0_3 : Nat) (l0_3 : List Int) (a1_0 : Int) (a1_1 : Int) (a1_2 : ByteArray) (A1_3 : Option Addr) (c1_3 : Nat) (l1_3 : List (S26)) (r : Bool) (w : World) (hr0_3 : Kd.C (Kd.int .i64) w A0_3 l0_3.length l0_3) (hc0_3 : l0_3.length ≤ c0_3) (hr1_3 : Kd.C k26 w A1_3 l1_3.length l1_3) (hc1_3 : l1_3.length ≤ c1_3) (hG : QuarterLaid w) (h : minstrellaw19_SnapEntries.f k a0_0 a0_1 a0_2 l0_3 a1_0 a1_1 a1_2 l1_3 = some r) :
  Calls Tryd.prog 6 #[.agg #[.int .u64 a0_0, .int .i64 a0_1, .string a0_2, .slice A0_3 l0_3.length c0_3], .agg #[.int .i64 a1_0, .int .u64 a1_1, .string a1_2, .slice A1_3 l1_3.length c1_3]] w fun e w' => e = .returned (.bool r) ∧ Below w.heap.size w w' := by
 have hu46 := Tryd.underlying46
 have hu26 := Tryd.underlying26
 have HR0_3 := am hr0_3
 have HC0_3 := am hc0_3
 clear hr0_3 hc0_3
 have HR1_3 := am hr1_3
 have HC1_3 := am hc1_3
 clear hr1_3 hc1_3
 have HG := am hG
 clear hG
 have HB := am (Below.refl w.heap.size w)
 have H : ((minstrellaw19_small.f k a1_0 a1_1 a1_2 l1_3).bind fun t846 => (if t846 = true then (minstrellaw19_SnapEntries.j0 k (decide ((l0_3.length : Int) > 1000)) a0_0 a0_1 a0_2 l0_3 a1_0 a1_1 a1_2 l1_3) else (minstrellaw19_SnapEntries.j0 k true a0_0 a0_1 a0_2 l0_3 a1_0 a1_1 a1_2 l1_3))) = some r := h
 clear h
 have HC3 := am H
 clear H
 go_enter Tryd.func6, Tryd.ntmps6
 go_upto_region 1 with (first | ((with_reducible refine gate_dst (N := 2) rfl ?_); (try (refine gate_guard (by rfl) ?_; dsimp only)); refine box_event ?hg (N := 2) ?hd (cs := #[.int .u64 a0_0, .int .i64 a0_1, .string a0_2, .slice A0_3 l0_3.length c0_3]) (t := 46) ?hr ?_; (case hd => rfl); (case hg => rfl); (case hr => first | (go_simp; done) | (go_simp; rfl)); intro gb844 hg w4 hbox hb; have BK844 := am (hbox); have GW844 := am ((by rw [hg]; exact (below_size pB) : w.heap.size ≤ gb844)); have GE844 := am ((by rw [hg]; exact (below_size pB) : w.heap.size ≤ gb844)); replace HB := am (below_step pB hb); clear hb hbox hg) | ((with_reducible refine gate_dst (N := 3) rfl ?_); (try (refine gate_guard (by rfl) ?_; dsimp only)); refine box_event ?hg (N := 3) ?hd (cs := #[.int .i64 a1_0, .int .u64 a1_1, .string a1_2, .slice A1_3 l1_3.length c1_3]) (t := 26) ?hr ?_; (case hd => rfl); (case hg => rfl); (case hr => first | (go_simp; done) | (go_simp; rfl)); intro gb845 hg w5 hbox hb; have BK845 := am (hbox); have GW845 := am ((by rw [hg]; exact (below_size pB) : w.heap.size ≤ gb845)); have GE845 := am ((by rw [hg]; exact (below_size pB) : w.heap.size ≤ gb845)); have NB844_845 := am ((by rw [hg]; exact Nat.ne_of_lt (pkl BK844.out) : gb844 ≠ gb845)); have NB845_844 := am ((by rw [hg]; exact Nat.ne_of_gt (pkl BK844.out) : gb845 ≠ gb844)); replace BK844 := am (pkb BK844.out hb); replace HB := am (below_step pB hb); clear hb hbox hg))
 (try simp only [Act.put, List.setIfInBounds_toArray, List.set_cons_zero, List.set_cons_succ])
 go_cut [23] (fun v23 wc => ∃ (kq : Nat) (x23_2 : Bool), v23 = .bool x23_2 ∧ Aside0 (minstrellaw19_SnapEntries.j0 kq x23_2 a0_0 a0_1 a0_2 l0_3 a1_0 a1_1 a1_2 l1_3 = some r) ∧ Aside0 (kq ≤ k) ∧ Aside0 (wc.heap[gb844]? = some (.cells #[.int .u64 a0_0, .int .i64 a0_1, .string a0_2, (.slice A0_3 l0_3.length c0_3)] 46 (0, 0))) ∧ Aside0 (wc.heap[gb845]? = some (.cells #[.int .i64 a1_0, .int .u64 a1_1, .string a1_2, (.slice A1_3 l1_3.length c1_3)] 26 (0, 0))) ∧ Aside0 (Below w.heap.size w wc))
 case first =>
  have H := HC3.out
  clear HC3
  replace H := Option.bind_eq_some_iff.mp H
  obtain ⟨t846, A60, H⟩ := H
  try dsimp only at H
  have A6 := am A60
  clear A60
  by_cases c7 : t846 = true
  ·subst c7
   rw [if_pos rfl] at H
   have H' := am H
   clear H
   have hnb8 := NB845_844.out
   have hnc8 := NB844_845.out
   have q9 := cf4 BK845.out
   go_wp2_with (first | ((with_reducible refine gate_callee (f := 7) rfl ?_); refine goesL_ (some 16) rfl rfl Tryd.func7 (by kernel_rfl) rfl #[.agg #[.int .i64 a1_0, .int .u64 a1_1, .string a1_2, .slice A1_3 l1_3.length c1_3]] rfl pM ?_; (with_reducible refine (minstrellaw19_small.calls k a1_0 a1_1 a1_2 _ _ l1_3 true _ ?side1 ?side2 A6.out).mono ?_); (case side1 => exact pC (Kd.C_below HR1_3.out HB.out)); (case side2 => exact HC1_3.out); rintro e w10 ⟨rfl, hb⟩; refine ⟨_, rfl, ?_⟩; replace BK844 := am (pkb BK844.out hb); replace BK845 := am (pkb BK845.out hb); replace HB := am (below_step pB hb); (try clear hb); (try clear hb2); (try clear hk); (try clear hi); have q11 := cf4 BK844.out))
   go_meet
   case rel => exact ⟨_, (decide ((l0_3.length : Int) > 1000)), (by first | rfl | (simp; done) | (simp [*]; done)), H', ⟨by first | omega | exact Nat.le_refl _⟩, ⟨by (with_reducible repeat (first | refine blk_drewN ?_ _ | refine blk_drew ?_ | refine blk_alloc ?_ _)); exact BK844.out⟩, ⟨by (with_reducible repeat (first | refine blk_drewN ?_ _ | refine blk_drew ?_ | refine blk_alloc ?_ _)); exact BK845.out⟩, ⟨pB⟩⟩
  ·replace c7 := Bool.eq_false_iff.mpr c7
   subst c7
   rw [if_neg (show ¬ (false = true) by decide)] at H
   have H' := am H
   clear H
   have hnb12 := NB845_844.out
   have hnc12 := NB844_845.out
   have q13 := cf4 BK845.out
   go_wp2_with (first | ((with_reducible refine gate_callee (f := 7) rfl ?_); refine goesL_ (some 16) rfl rfl Tryd.func7 (by kernel_rfl) rfl #[.agg #[.int .i64 a1_0, .int .u64 a1_1, .string a1_2, .slice A1_3 l1_3.length c1_3]] rfl pM ?_; (with_reducible refine (minstrellaw19_small.calls k a1_0 a1_1 a1_2 _ _ l1_3 false _ ?side1 ?side2 A6.out).mono ?_); (case side1 => exact pC (Kd.C_below HR1_3.out HB.out)); (case side2 => exact HC1_3.out); rintro e w14 ⟨rfl, hb⟩; refine ⟨_, rfl, ?_⟩; replace BK844 := am (pkb BK844.out hb); replace BK845 := am (pkb BK845.out hb); replace HB := am (below_step pB hb); (try clear hb); (try clear hb2); (try clear hk); (try clear hi)))
   go_meet
   case rel => exact ⟨_, (true), (by first | rfl | (simp; done) | (simp [*]; done)), H', ⟨by first | omega | exact Nat.le_refl _⟩, ⟨by (with_reducible repeat (first | refine blk_drewN ?_ _ | refine blk_drew ?_ | refine blk_alloc ?_ _)); exact BK844.out⟩, ⟨by (with_reducible repeat (first | refine blk_drewN ?_ _ | refine blk_drew ?_ | refine blk_alloc ?_ _)); exact BK845.out⟩, ⟨pB⟩⟩
 case rest =>
  clear HC3
  try clear c1
  try clear p2
  try clear c6
  try clear c7
  try clear c8
  try clear c12
  try clear q11 q13 q9
  obtain ⟨kq, x23_2, rfl, HA, HJ2, BK844, BK845, HB⟩ := hcut
  cases kq with
  | zero => exact absurd HA.out (by simp [minstrellaw19_SnapEntries.j0])
  | succ kj2 =>
   have H := HA.out
   clear HA
   simp only [minstrellaw19_SnapEntries.j0] at H
   by_cases c15 : x23_2 = true
   ·subst c15
    rw [if_pos rfl] at H
    replace H := Option.bind_eq_some_iff.mp H
    obtain ⟨t847, A160, H⟩ := H
    try dsimp only at H
    have A16 := am A160
    clear A160
    obtain rfl := Option.some.inj H
    go_wp2_with (first | ((with_reducible refine gate_callee (f := 8) rfl ?_); refine goesL_ (some 24) rfl rfl Tryd.func8 (by kernel_rfl) rfl #[] rfl pM ?_; (with_reducible refine (minstrellaw19_lives.calls kj2  t847 _ ?side1 A16.out).mono ?_); (case side1 => exact pG); rintro e w17 ⟨rfl, hb⟩; refine ⟨_, rfl, ?_⟩; replace BK844 := am (pkb BK844.out hb); replace BK845 := am (pkb BK845.out hb); replace HB := am (below_step pB hb); (try clear hb); (try clear hb2); (try clear hk); (try clear hi)))
    go_ret
    exact ⟨pE, pB⟩
   ·replace c15 := Bool.eq_false_iff.mpr c15
    subst c15
    rw [if_neg (show ¬ (false = true) by decide)] at H
    replace H := Option.bind_eq_some_iff.mp H
    obtain ⟨⟨t848, t849, t850, t851, t854⟩, A180, H⟩ := H
    try dsimp only at H
    have A18 := am A180
    clear A180
    replace H := Option.bind_eq_some_iff.mp H
    obtain ⟨⟨t856, t857, t858, t859, t862⟩, A190, H⟩ := H
    try dsimp only at H
    have A19 := am A190
    clear A190
    have HC20 := am H
    clear H
    have hnb21 := NB844_845.out
    have hnc21 := NB845_844.out
    have q22 := cf4 BK844.out
    go_upto_region 5 with (first | ((with_reducible refine gate_callee (f := 17) rfl ?_); refine goesL_ (some 27) rfl rfl Tryd.func17 (by kernel_rfl) rfl #[.agg #[.int .u64 a0_0, .int .i64 a0_1, .string a0_2, .slice A0_3 l0_3.length c0_3]] rfl pM ?_; (with_reducible refine (snap_EntryCell.calls kj2 a0_0 a0_1 a0_2 _ _ l0_3 t848 t849 t850 t851 t854 _ ?side1 ?side2 A18.out).mono ?_); (case side1 => exact pC (Kd.C_below HR0_3.out HB.out)); (case side2 => exact HC0_3.out); rintro e w23 ⟨v852, rfl, ho0, hb⟩; refine ⟨_, rfl, ?_⟩; have HO853 := am (Kd.N_lower (Kd.N_mono (ok' := fun k_ => k_ ≠ gb844 ∧ k_ ≠ gb845) ho0 (fun k_ hk_ => ⟨(Kd.freshB (g := gb844) (o := .cells #[.int .u64 a0_0, .int .i64 a0_1, .string a0_2, .slice A0_3 l0_3.length c0_3] 46 (0, 0)) (pK BK844.out) k_ hk_), (Kd.freshB (g := gb845) (o := .cells #[.int .i64 a1_0, .int .u64 a1_1, .string a1_2, .slice A1_3 l1_3.length c1_3] 26 (0, 0)) (pK BK845.out) k_ hk_)⟩)) (below_size pB)); replace BK844 := am (pkb BK844.out hb); replace BK845 := am (pkb BK845.out hb); replace HB := am (below_step pB hb); (try clear hb); (try clear hb2); (try clear hk); (try clear hi); (try clear ho0)) | ((with_reducible refine gate_dst (N := 5) rfl ?_); (try (refine gate_guard (by rfl) ?_; dsimp only)); refine box_event ?hg (N := 5) ?hd (cs := #[.int .i64 0, .int .u64 0, .string (⟨#[]⟩ : ByteArray), .slice none 0 0]) (t := 26) ?hr ?_; (case hd => rfl); (case hg => rfl); (case hr => first | (go_simp; done) | (go_simp; rfl)); intro gb855 hg w24 hbox hb; replace HO853 := am (Kd.N_below (Kd.N_elderB (pN HO853.out) gb855 (Nat.le_of_eq hg.symm)) hb); have BK855 := am (hbox); have GW855 := am ((by rw [hg]; exact (below_size pB) : w.heap.size ≤ gb855)); have GE855 := am ((by rw [hg]; exact (below_size pB) : w.heap.size ≤ gb855)); have NB844_855 := am ((by rw [hg]; exact Nat.ne_of_lt (pkl BK844.out) : gb844 ≠ gb855)); have NB855_844 := am ((by rw [hg]; exact Nat.ne_of_gt (pkl BK844.out) : gb855 ≠ gb844)); replace BK844 := am (pkb BK844.out hb); have NB845_855 := am ((by rw [hg]; exact Nat.ne_of_lt (pkl BK845.out) : gb845 ≠ gb855)); have NB855_845 := am ((by rw [hg]; exact Nat.ne_of_gt (pkl BK845.out) : gb855 ≠ gb845)); replace BK845 := am (pkb BK845.out hb); replace HB := am (below_step pB hb); clear hb hbox hg; have hnb25 := NB855_844.out; have hnc25 := NB844_855.out; have hnb26 := NB855_845.out; have hnc26 := NB845_855.out; have q27 := cf4 BK855.out; obtain ⟨Ao28, co28, eo28⟩ := Kd.N_slice HO853.out; subst eo28; have q29 := cf4 BK844.out) | ((with_reducible refine gate_callee (f := 18) rfl ?_); refine goesL_ (some 32) rfl rfl Tryd.func18 (by kernel_rfl) rfl #[.agg #[.int .u64 a0_0, .int .i64 a0_1, .string a0_2, .slice A0_3 l0_3.length c0_3]] rfl pM ?_; (with_reducible refine (minstrelref19_EntryCell.calls kj2 a0_0 a0_1 a0_2 _ _ l0_3 t856 t857 t858 t859 t862 _ ?side1 ?side2 A19.out).mono ?_); (case side1 => exact Kd.C_below HR0_3.out pB); (case side2 => exact HC0_3.out); rintro e w30 ⟨v860, rfl, ho0, hb⟩; refine ⟨_, rfl, ?_⟩; have HO861 := am (Kd.V_lower (Kd.V_mono (ok' := fun k_ => some k_ ≠ (.slice Ao28 t851.length co28 : Value).ownBlock ∧ k_ ≠ gb844 ∧ k_ ≠ gb845 ∧ k_ ≠ gb855) ho0 (fun k_ hk_ => ⟨(Kd.fresh' (Kd.N_lt (by (with_reducible repeat (first | apply Kd.N_alloc | apply Kd.N_drewN | apply Kd.N_drew)); exact (Kd.N_mono (Kd.N_far (p := ⟨gb855, 3, none⟩) (Kd.N_far (p := ⟨gb855, 2, none⟩) (Kd.N_far (p := ⟨gb855, 1, none⟩) (Kd.N_far (p := ⟨gb855, 0, none⟩) (Kd.N_mono HO853.out (fun k_ hk => (⟨hk, hk.2⟩ : _ ∧ k_ ≠ gb855))) (fun _ hk => hk.2) (.int .i64 t848)) (fun _ hk => hk.2) (.int .u64 t849)) (fun _ hk => hk.2) (.string t850)) (fun _ hk => hk.2) (.slice Ao28 t851.length co28)) (fun _ h_ => h_.1)))) k_ hk_), (Kd.freshB (g := gb844) (o := .cells #[.int .u64 a0_0, .int .i64 a0_1, .string a0_2, .slice A0_3 l0_3.length c0_3] 46 (0, 0)) (by (with_reducible repeat (first | refine blk_drewN ?_ _ | refine blk_drew ?_ | refine blk_alloc ?_ _)); refine blk_far ?_ NB844_855.out _; (with_reducible repeat (first | refine blk_drewN ?_ _ | refine blk_drew ?_ | refine blk_alloc ?_ _)); refine blk_far ?_ NB844_855.out _; (with_reducible repeat (first | refine blk_drewN ?_ _ | refine blk_drew ?_ | refine blk_alloc ?_ _)); refine blk_far ?_ NB844_855.out _; (with_reducible repeat (first | refine blk_drewN ?_ _ | refine blk_drew ?_ | refine blk_alloc ?_ _)); refine blk_far ?_ NB844_855.out _; (with_reducible repeat (first | refine blk_drewN ?_ _ | refine blk_drew ?_ | refine blk_alloc ?_ _)); exact BK844.out) k_ hk_), (Kd.freshB (g := gb845) (o := .cells #[.int .i64 a1_0, .int .u64 a1_1, .string a1_2, .slice A1_3 l1_3.length c1_3] 26 (0, 0)) (by (with_reducible repeat (first | refine blk_drewN ?_ _ | refine blk_drew ?_ | refine blk_alloc ?_ _)); refine blk_far ?_ NB845_855.out _; (with_reducible repeat (first | refine blk_drewN ?_ _ | refine blk_drew ?_ | refine blk_alloc ?_ _)); refine blk_far ?_ NB845_855.out _; (with_reducible repeat (first | refine blk_drewN ?_ _ | refine blk_drew ?_ | refine blk_alloc ?_ _)); refine blk_far ?_ NB845_855.out _; (with_reducible repeat (first | refine blk_drewN ?_ _ | refine blk_drew ?_ | refine blk_alloc ?_ _)); refine blk_far ?_ NB845_855.out _; (with_reducible repeat (first | refine blk_drewN ?_ _ | refine blk_drew ?_ | refine blk_alloc ?_ _)); exact BK845.out) k_ hk_), (Kd.freshB (g := gb855) (o := .cells #[.int .i64 t848, .int .u64 t849, .string t850, .slice Ao28 t851.length co28] 26 (0, 0)) (by (with_reducible repeat (first | refine blk_drewN ?_ _ | refine blk_drew ?_ | refine blk_alloc ?_ _)); refine blk_put (cs := #[.int .i64 t848, .int .u64 t849, .string t850, .slice none 0 0]) ?_ 3 _ rfl; (with_reducible repeat (first | refine blk_drewN ?_ _ | refine blk_drew ?_ | refine blk_alloc ?_ _)); refine blk_put (cs := #[.int .i64 t848, .int .u64 t849, .string (⟨#[]⟩ : ByteArray), .slice none 0 0]) ?_ 2 _ rfl; (with_reducible repeat (first | refine blk_drewN ?_ _ | refine blk_drew ?_ | refine blk_alloc ?_ _)); refine blk_put (cs := #[.int .i64 t848, .int .u64 0, .string (⟨#[]⟩ : ByteArray), .slice none 0 0]) ?_ 1 _ rfl; (with_reducible repeat (first | refine blk_drewN ?_ _ | refine blk_drew ?_ | refine blk_alloc ?_ _)); refine blk_put (cs := #[.int .i64 0, .int .u64 0, .string (⟨#[]⟩ : ByteArray), .slice none 0 0]) ?_ 0 _ rfl; (with_reducible repeat (first | refine blk_drewN ?_ _ | refine blk_drew ?_ | refine blk_alloc ?_ _)); exact BK855.out) k_ hk_)⟩)) (below_size pB)); replace HO853 := am (Kd.N_below (by (with_reducible repeat (first | apply Kd.N_alloc | apply Kd.N_drewN | apply Kd.N_drew)); exact (Kd.N_mono (Kd.N_far (p := ⟨gb855, 3, none⟩) (Kd.N_far (p := ⟨gb855, 2, none⟩) (Kd.N_far (p := ⟨gb855, 1, none⟩) (Kd.N_far (p := ⟨gb855, 0, none⟩) (Kd.N_mono HO853.out (fun k_ hk => (⟨hk, hk.2⟩ : _ ∧ k_ ≠ gb855))) (fun _ hk => hk.2) (.int .i64 t848)) (fun _ hk => hk.2) (.int .u64 t849)) (fun _ hk => hk.2) (.string t850)) (fun _ hk => hk.2) (.slice Ao28 t851.length co28)) (fun _ h_ => h_.1))) hb); replace BK844 := am (blk_below (g := gb844) (o := .cells #[.int .u64 a0_0, .int .i64 a0_1, .string a0_2, .slice A0_3 l0_3.length c0_3] 46 (0, 0)) (by (with_reducible repeat (first | refine blk_drewN ?_ _ | refine blk_drew ?_ | refine blk_alloc ?_ _)); refine blk_far ?_ NB844_855.out _; (with_reducible repeat (first | refine blk_drewN ?_ _ | refine blk_drew ?_ | refine blk_alloc ?_ _)); refine blk_far ?_ NB844_855.out _; (with_reducible repeat (first | refine blk_drewN ?_ _ | refine blk_drew ?_ | refine blk_alloc ?_ _)); refine blk_far ?_ NB844_855.out _; (with_reducible repeat (first | refine blk_drewN ?_ _ | refine blk_drew ?_ | refine blk_alloc ?_ _)); refine blk_far ?_ NB844_855.out _; (with_reducible repeat (first | refine blk_drewN ?_ _ | refine blk_drew ?_ | refine blk_alloc ?_ _)); exact BK844.out) hb); replace BK845 := am (blk_below (g := gb845) (o := .cells #[.int .i64 a1_0, .int .u64 a1_1, .string a1_2, .slice A1_3 l1_3.length c1_3] 26 (0, 0)) (by (with_reducible repeat (first | refine blk_drewN ?_ _ | refine blk_drew ?_ | refine blk_alloc ?_ _)); refine blk_far ?_ NB845_855.out _; (with_reducible repeat (first | refine blk_drewN ?_ _ | refine blk_drew ?_ | refine blk_alloc ?_ _)); refine blk_far ?_ NB845_855.out _; (with_reducible repeat (first | refine blk_drewN ?_ _ | refine blk_drew ?_ | refine blk_alloc ?_ _)); refine blk_far ?_ NB845_855.out _; (with_reducible repeat (first | refine blk_drewN ?_ _ | refine blk_drew ?_ | refine blk_alloc ?_ _)); refine blk_far ?_ NB845_855.out _; (with_reducible repeat (first | refine blk_drewN ?_ _ | refine blk_drew ?_ | refine blk_alloc ?_ _)); exact BK845.out) hb); replace BK855 := am (blk_below (g := gb855) (o := .cells #[.int .i64 t848, .int .u64 t849, .string t850, .slice Ao28 t851.length co28] 26 (0, 0)) (by (with_reducible repeat (first | refine blk_drewN ?_ _ | refine blk_drew ?_ | refine blk_alloc ?_ _)); refine blk_put (cs := #[.int .i64 t848, .int .u64 t849, .string t850, .slice none 0 0]) ?_ 3 _ rfl; (with_reducible repeat (first | refine blk_drewN ?_ _ | refine blk_drew ?_ | refine blk_alloc ?_ _)); refine blk_put (cs := #[.int .i64 t848, .int .u64 t849, .string (⟨#[]⟩ : ByteArray), .slice none 0 0]) ?_ 2 _ rfl; (with_reducible repeat (first | refine blk_drewN ?_ _ | refine blk_drew ?_ | refine blk_alloc ?_ _)); refine blk_put (cs := #[.int .i64 t848, .int .u64 0, .string (⟨#[]⟩ : ByteArray), .slice none 0 0]) ?_ 1 _ rfl; (with_reducible repeat (first | refine blk_drewN ?_ _ | refine blk_drew ?_ | refine blk_alloc ?_ _)); refine blk_put (cs := #[.int .i64 0, .int .u64 0, .string (⟨#[]⟩ : ByteArray), .slice none 0 0]) ?_ 0 _ rfl; (with_reducible repeat (first | refine blk_drewN ?_ _ | refine blk_drew ?_ | refine blk_alloc ?_ _)); exact BK855.out) hb); replace HB := am (below_step pB hb); (try clear hb); (try clear hb2); (try clear hk); (try clear hi); (try clear ho0)) | ((with_reducible refine gate_dst (N := 7) rfl ?_); (try (refine gate_guard (by rfl) ?_; dsimp only)); refine box_event ?hg (N := 7) ?hd (cs := #[.int .i64 0, .int .u64 0, .string (⟨#[]⟩ : ByteArray), .slice none 0 0]) (t := 26) ?hr ?_; (case hd => rfl); (case hg => rfl); (case hr => first | (go_simp; done) | (go_simp; rfl)); intro gb863 hg w31 hbox hb; replace HO853 := am (Kd.N_below (Kd.N_elderB (pN HO853.out) gb863 (Nat.le_of_eq hg.symm)) hb); replace HO861 := am (Kd.V_below (Kd.V_elderB (pV HO861.out) gb863 (Nat.le_of_eq hg.symm)) hb); have BK863 := am (hbox); have GW863 := am ((by rw [hg]; exact (below_size pB) : w.heap.size ≤ gb863)); have GE863 := am ((by rw [hg]; exact (below_size pB) : w.heap.size ≤ gb863)); have NB844_863 := am ((by rw [hg]; exact Nat.ne_of_lt (pkl BK844.out) : gb844 ≠ gb863)); have NB863_844 := am ((by rw [hg]; exact Nat.ne_of_gt (pkl BK844.out) : gb863 ≠ gb844)); replace BK844 := am (pkb BK844.out hb); have NB845_863 := am ((by rw [hg]; exact Nat.ne_of_lt (pkl BK845.out) : gb845 ≠ gb863)); have NB863_845 := am ((by rw [hg]; exact Nat.ne_of_gt (pkl BK845.out) : gb863 ≠ gb845)); replace BK845 := am (pkb BK845.out hb); have NB855_863 := am ((by rw [hg]; exact Nat.ne_of_lt (pkl BK855.out) : gb855 ≠ gb863)); have NB863_855 := am ((by rw [hg]; exact Nat.ne_of_gt (pkl BK855.out) : gb863 ≠ gb855)); replace BK855 := am (pkb BK855.out hb); replace HB := am (below_step pB hb); clear hb hbox hg; have hnb32 := NB863_844.out; have hnc32 := NB844_863.out; have hnb33 := NB863_845.out; have hnc33 := NB845_863.out; have hnb34 := NB863_855.out; have hnc34 := NB855_863.out; have q35 := cf4 BK863.out; obtain ⟨Ao36, co36, eo36⟩ := Kd.V_slice HO861.out; subst eo36))
    (try simp only [Act.put, List.setIfInBounds_toArray, List.set_cons_zero, List.set_cons_succ])
    go_cut [43] (fun v43 wc => ∃ (kq : Nat) (x43_19 : Bool), v43 = .bool x43_19 ∧ Aside0 (minstrellaw19_SnapEntries.j1 kq t854 x43_19 a0_0 a0_1 a0_2 l0_3 a1_0 a1_1 a1_2 l1_3 t848 t849 t850 t851 = some r) ∧ Aside0 (kq ≤ kj2) ∧ Aside0 (Kd.N k26 26 wc w.heap.size (fun k_ => k_ ≠ gb844 ∧ k_ ≠ gb845 ∧ k_ ≠ gb855 ∧ k_ ≠ gb863) (.slice Ao28 t851.length co28) t851) ∧ Aside0 (Kd.V k26 26 wc w.heap.size (fun k_ => some k_ ≠ ((.slice Ao28 t851.length co28) : Value).ownBlock ∧ k_ ≠ gb844 ∧ k_ ≠ gb845 ∧ k_ ≠ gb855 ∧ k_ ≠ gb863) (.slice Ao36 t859.length co36) t859) ∧ Aside0 (wc.heap[gb844]? = some (.cells #[.int .u64 a0_0, .int .i64 a0_1, .string a0_2, (.slice A0_3 l0_3.length c0_3)] 46 (0, 0))) ∧ Aside0 (wc.heap[gb845]? = some (.cells #[.int .i64 a1_0, .int .u64 a1_1, .string a1_2, (.slice A1_3 l1_3.length c1_3)] 26 (0, 0))) ∧ Aside0 (wc.heap[gb855]? = some (.cells #[.int .i64 t848, .int .u64 t849, .string t850, (.slice Ao28 t851.length co28)] 26 (0, 0))) ∧ Aside0 (wc.heap[gb863]? = some (.cells #[.int .i64 t856, .int .u64 t857, .string t858, (.slice Ao36 t859.length co36)] 26 (0, 0))) ∧ Aside0 (Below w.heap.size w wc))
    case first =>
     have H := HC20.out
     clear HC20
     replace H := Option.bind_eq_some_iff.mp H
     obtain ⟨t864, A370, H⟩ := H
     try dsimp only at H
     have A37 := am A370
     clear A370
     by_cases c38 : t864 = true
     ·subst c38
      rw [if_pos rfl] at H
      have H' := am H
      clear H
      have hnb39 := NB855_844.out
      have hnc39 := NB844_855.out
      have hnb40 := NB855_845.out
      have hnc40 := NB845_855.out
      have hnb41 := NB855_863.out
      have hnc41 := NB863_855.out
      have q42 := cf4 BK855.out
      have hnb43 := NB863_844.out
      have hnc43 := NB844_863.out
      have hnb44 := NB863_845.out
      have hnc44 := NB845_863.out
      have q45 := cf4 BK863.out
      go_wp2_with (first | ((with_reducible refine gate_callee (f := 19) rfl ?_); refine goesL_ (some 37) rfl rfl Tryd.func19 (by kernel_rfl) rfl #[.agg #[.int .i64 t848, .int .u64 t849, .string t850, .slice Ao28 t851.length co28], .agg #[.int .i64 t856, .int .u64 t857, .string t858, .slice Ao36 t859.length co36]] rfl pM ?_; (with_reducible refine (minstrelref07_Same.calls kj2 t848 t849 t850 _ _ t851 t856 t857 t858 _ _ t859 true _ ?side1 ?side2 ?side3 ?side4 A37.out).mono ?_); (case side1 => refine (Kd.N_reads' (e := 26) (base := w.heap.size) (ok := fun k_ => (((k_ ≠ gb844 ∧ k_ ≠ gb845) ∧ k_ ≠ gb855) ∧ k_ ≠ gb863)) (n := t851.length) (c := co28) ?_).2.2; exact (by (with_reducible repeat (first | apply Kd.N_alloc | apply Kd.N_drewN | apply Kd.N_drew)); exact (Kd.N_mono (Kd.N_far (p := ⟨gb863, 3, none⟩) (Kd.N_far (p := ⟨gb863, 2, none⟩) (Kd.N_far (p := ⟨gb863, 1, none⟩) (Kd.N_far (p := ⟨gb863, 0, none⟩) (Kd.N_mono HO853.out (fun k_ hk => (⟨hk, hk.2⟩ : _ ∧ k_ ≠ gb863))) (fun _ hk => hk.2) (.int .i64 t856)) (fun _ hk => hk.2) (.int .u64 t857)) (fun _ hk => hk.2) (.string t858)) (fun _ hk => hk.2) (.slice Ao36 t859.length co36)) (fun _ h_ => h_.1)))); (case side2 => exact (Kd.N_reads' HO853.out).2.1); (case side3 => refine (Kd.V_reads' (e := 26) (base := w.heap.size) (ok := fun k_ => ((some k_ ≠ (.slice Ao28 t851.length co28 : Value).ownBlock ∧ (k_ ≠ gb844 ∧ (k_ ≠ gb845 ∧ k_ ≠ gb855))) ∧ k_ ≠ gb863)) (n := t859.length) (c := co36) ?_).2.2; exact (by (with_reducible repeat (first | apply Kd.V_alloc | apply Kd.V_drewN | apply Kd.V_drew)); exact (Kd.V_mono (Kd.V_far (p := ⟨gb863, 3, none⟩) (Kd.V_far (p := ⟨gb863, 2, none⟩) (Kd.V_far (p := ⟨gb863, 1, none⟩) (Kd.V_far (p := ⟨gb863, 0, none⟩) (Kd.V_mono HO861.out (fun k_ hk => (⟨hk, hk.2⟩ : _ ∧ k_ ≠ gb863))) (fun _ hk => hk.2) (.int .i64 t856)) (fun _ hk => hk.2) (.int .u64 t857)) (fun _ hk => hk.2) (.string t858)) (fun _ hk => hk.2) (.slice Ao36 t859.length co36)) (fun _ h_ => h_.1)))); (case side4 => exact (Kd.V_reads' HO861.out).2.1); rintro e w46 ⟨rfl, hb⟩; refine ⟨_, rfl, ?_⟩; replace HO853 := am (Kd.N_below (by (with_reducible repeat (first | apply Kd.N_alloc | apply Kd.N_drewN | apply Kd.N_drew)); exact (Kd.N_mono (Kd.N_far (p := ⟨gb863, 3, none⟩) (Kd.N_far (p := ⟨gb863, 2, none⟩) (Kd.N_far (p := ⟨gb863, 1, none⟩) (Kd.N_far (p := ⟨gb863, 0, none⟩) (Kd.N_mono HO853.out (fun k_ hk => (⟨hk, hk.2⟩ : _ ∧ k_ ≠ gb863))) (fun _ hk => hk.2) (.int .i64 t856)) (fun _ hk => hk.2) (.int .u64 t857)) (fun _ hk => hk.2) (.string t858)) (fun _ hk => hk.2) (.slice Ao36 t859.length co36)) (fun _ h_ => h_.1))) hb); replace HO861 := am (Kd.V_below (by (with_reducible repeat (first | apply Kd.V_alloc | apply Kd.V_drewN | apply Kd.V_drew)); exact (Kd.V_mono (Kd.V_far (p := ⟨gb863, 3, none⟩) (Kd.V_far (p := ⟨gb863, 2, none⟩) (Kd.V_far (p := ⟨gb863, 1, none⟩) (Kd.V_far (p := ⟨gb863, 0, none⟩) (Kd.V_mono HO861.out (fun k_ hk => (⟨hk, hk.2⟩ : _ ∧ k_ ≠ gb863))) (fun _ hk => hk.2) (.int .i64 t856)) (fun _ hk => hk.2) (.int .u64 t857)) (fun _ hk => hk.2) (.string t858)) (fun _ hk => hk.2) (.slice Ao36 t859.length co36)) (fun _ h_ => h_.1))) hb); replace BK844 := am (blk_below (g := gb844) (o := .cells #[.int .u64 a0_0, .int .i64 a0_1, .string a0_2, .slice A0_3 l0_3.length c0_3] 46 (0, 0)) (by (with_reducible repeat (first | refine blk_drewN ?_ _ | refine blk_drew ?_ | refine blk_alloc ?_ _)); refine blk_far ?_ NB844_863.out _; (with_reducible repeat (first | refine blk_drewN ?_ _ | refine blk_drew ?_ | refine blk_alloc ?_ _)); refine blk_far ?_ NB844_863.out _; (with_reducible repeat (first | refine blk_drewN ?_ _ | refine blk_drew ?_ | refine blk_alloc ?_ _)); refine blk_far ?_ NB844_863.out _; (with_reducible repeat (first | refine blk_drewN ?_ _ | refine blk_drew ?_ | refine blk_alloc ?_ _)); refine blk_far ?_ NB844_863.out _; (with_reducible repeat (first | refine blk_drewN ?_ _ | refine blk_drew ?_ | refine blk_alloc ?_ _)); exact BK844.out) hb); replace BK845 := am (blk_below (g := gb845) (o := .cells #[.int .i64 a1_0, .int .u64 a1_1, .string a1_2, .slice A1_3 l1_3.length c1_3] 26 (0, 0)) (by (with_reducible repeat (first | refine blk_drewN ?_ _ | refine blk_drew ?_ | refine blk_alloc ?_ _)); refine blk_far ?_ NB845_863.out _; (with_reducible repeat (first | refine blk_drewN ?_ _ | refine blk_drew ?_ | refine blk_alloc ?_ _)); refine blk_far ?_ NB845_863.out _; (with_reducible repeat (first | refine blk_drewN ?_ _ | refine blk_drew ?_ | refine blk_alloc ?_ _)); refine blk_far ?_ NB845_863.out _; (with_reducible repeat (first | refine blk_drewN ?_ _ | refine blk_drew ?_ | refine blk_alloc ?_ _)); refine blk_far ?_ NB845_863.out _; (with_reducible repeat (first | refine blk_drewN ?_ _ | refine blk_drew ?_ | refine blk_alloc ?_ _)); exact BK845.out) hb); replace BK855 := am (blk_below (g := gb855) (o := .cells #[.int .i64 t848, .int .u64 t849, .string t850, .slice Ao28 t851.length co28] 26 (0, 0)) (by (with_reducible repeat (first | refine blk_drewN ?_ _ | refine blk_drew ?_ | refine blk_alloc ?_ _)); refine blk_far ?_ NB855_863.out _; (with_reducible repeat (first | refine blk_drewN ?_ _ | refine blk_drew ?_ | refine blk_alloc ?_ _)); refine blk_far ?_ NB855_863.out _; (with_reducible repeat (first | refine blk_drewN ?_ _ | refine blk_drew ?_ | refine blk_alloc ?_ _)); refine blk_far ?_ NB855_863.out _; (with_reducible repeat (first | refine blk_drewN ?_ _ | refine blk_drew ?_ | refine blk_alloc ?_ _)); refine blk_far ?_ NB855_863.out _; (with_reducible repeat (first | refine blk_drewN ?_ _ | refine blk_drew ?_ | refine blk_alloc ?_ _)); exact BK855.out) hb); replace BK863 := am (blk_below (g := gb863) (o := .cells #[.int .i64 t856, .int .u64 t857, .string t858, .slice Ao36 t859.length co36] 26 (0, 0)) (by (with_reducible repeat (first | refine blk_drewN ?_ _ | refine blk_drew ?_ | refine blk_alloc ?_ _)); refine blk_put (cs := #[.int .i64 t856, .int .u64 t857, .string t858, .slice none 0 0]) ?_ 3 _ rfl; (with_reducible repeat (first | refine blk_drewN ?_ _ | refine blk_drew ?_ | refine blk_alloc ?_ _)); refine blk_put (cs := #[.int .i64 t856, .int .u64 t857, .string (⟨#[]⟩ : ByteArray), .slice none 0 0]) ?_ 2 _ rfl; (with_reducible repeat (first | refine blk_drewN ?_ _ | refine blk_drew ?_ | refine blk_alloc ?_ _)); refine blk_put (cs := #[.int .i64 t856, .int .u64 0, .string (⟨#[]⟩ : ByteArray), .slice none 0 0]) ?_ 1 _ rfl; (with_reducible repeat (first | refine blk_drewN ?_ _ | refine blk_drew ?_ | refine blk_alloc ?_ _)); refine blk_put (cs := #[.int .i64 0, .int .u64 0, .string (⟨#[]⟩ : ByteArray), .slice none 0 0]) ?_ 0 _ rfl; (with_reducible repeat (first | refine blk_drewN ?_ _ | refine blk_drew ?_ | refine blk_alloc ?_ _)); exact BK863.out) hb); replace HB := am (below_step pB hb); (try clear hb); (try clear hb2); (try clear hk); (try clear hi)))
      go_meet
      case rel => exact ⟨_, ((t854 != t862)), (by first | rfl | (simp; done) | (simp [*]; done)), H', ⟨by have := HJ2.out; first | omega | exact Nat.le_refl _⟩, ⟨by (with_reducible repeat (first | apply Kd.N_alloc | apply Kd.N_drewN | apply Kd.N_drew)); exact Kd.N_mono HO853.out (fun _ hk => ⟨hk.1.1.1, ⟨hk.1.1.2, ⟨hk.1.2, hk.2⟩⟩⟩)⟩, ⟨by (with_reducible repeat (first | apply Kd.V_alloc | apply Kd.V_drewN | apply Kd.V_drew)); exact Kd.V_mono HO861.out (fun _ hk => ⟨hk.1.1, ⟨hk.1.2.1, ⟨hk.1.2.2.1, ⟨hk.1.2.2.2, hk.2⟩⟩⟩⟩)⟩, ⟨by (with_reducible repeat (first | refine blk_drewN ?_ _ | refine blk_drew ?_ | refine blk_alloc ?_ _)); exact BK844.out⟩, ⟨by (with_reducible repeat (first | refine blk_drewN ?_ _ | refine blk_drew ?_ | refine blk_alloc ?_ _)); exact BK845.out⟩, ⟨by (with_reducible repeat (first | refine blk_drewN ?_ _ | refine blk_drew ?_ | refine blk_alloc ?_ _)); exact BK855.out⟩, ⟨by (with_reducible repeat (first | refine blk_drewN ?_ _ | refine blk_drew ?_ | refine blk_alloc ?_ _)); exact BK863.out⟩, ⟨pB⟩⟩
     ·replace c38 := Bool.eq_false_iff.mpr c38
      subst c38
      rw [if_neg (show ¬ (false = true) by decide)] at H
      have H' := am H
      clear H
      have hnb47 := NB855_844.out
      have hnc47 := NB844_855.out
      have hnb48 := NB855_845.out
      have hnc48 := NB845_855.out
      have hnb49 := NB855_863.out
      have hnc49 := NB863_855.out
      have q50 := cf4 BK855.out
      have hnb51 := NB863_844.out
      have hnc51 := NB844_863.out
      have hnb52 := NB863_845.out
      have hnc52 := NB845_863.out
      have q53 := cf4 BK863.out
      go_wp2_with (first | ((with_reducible refine gate_callee (f := 19) rfl ?_); refine goesL_ (some 37) rfl rfl Tryd.func19 (by kernel_rfl) rfl #[.agg #[.int .i64 t848, .int .u64 t849, .string t850, .slice Ao28 t851.length co28], .agg #[.int .i64 t856, .int .u64 t857, .string t858, .slice Ao36 t859.length co36]] rfl pM ?_; (with_reducible refine (minstrelref07_Same.calls kj2 t848 t849 t850 _ _ t851 t856 t857 t858 _ _ t859 false _ ?side1 ?side2 ?side3 ?side4 A37.out).mono ?_); (case side1 => refine (Kd.N_reads' (e := 26) (base := w.heap.size) (ok := fun k_ => (((k_ ≠ gb844 ∧ k_ ≠ gb845) ∧ k_ ≠ gb855) ∧ k_ ≠ gb863)) (n := t851.length) (c := co28) ?_).2.2; exact (by (with_reducible repeat (first | apply Kd.N_alloc | apply Kd.N_drewN | apply Kd.N_drew)); exact (Kd.N_mono (Kd.N_far (p := ⟨gb863, 3, none⟩) (Kd.N_far (p := ⟨gb863, 2, none⟩) (Kd.N_far (p := ⟨gb863, 1, none⟩) (Kd.N_far (p := ⟨gb863, 0, none⟩) (Kd.N_mono HO853.out (fun k_ hk => (⟨hk, hk.2⟩ : _ ∧ k_ ≠ gb863))) (fun _ hk => hk.2) (.int .i64 t856)) (fun _ hk => hk.2) (.int .u64 t857)) (fun _ hk => hk.2) (.string t858)) (fun _ hk => hk.2) (.slice Ao36 t859.length co36)) (fun _ h_ => h_.1)))); (case side2 => exact (Kd.N_reads' HO853.out).2.1); (case side3 => refine (Kd.V_reads' (e := 26) (base := w.heap.size) (ok := fun k_ => ((some k_ ≠ (.slice Ao28 t851.length co28 : Value).ownBlock ∧ (k_ ≠ gb844 ∧ (k_ ≠ gb845 ∧ k_ ≠ gb855))) ∧ k_ ≠ gb863)) (n := t859.length) (c := co36) ?_).2.2; exact (by (with_reducible repeat (first | apply Kd.V_alloc | apply Kd.V_drewN | apply Kd.V_drew)); exact (Kd.V_mono (Kd.V_far (p := ⟨gb863, 3, none⟩) (Kd.V_far (p := ⟨gb863, 2, none⟩) (Kd.V_far (p := ⟨gb863, 1, none⟩) (Kd.V_far (p := ⟨gb863, 0, none⟩) (Kd.V_mono HO861.out (fun k_ hk => (⟨hk, hk.2⟩ : _ ∧ k_ ≠ gb863))) (fun _ hk => hk.2) (.int .i64 t856)) (fun _ hk => hk.2) (.int .u64 t857)) (fun _ hk => hk.2) (.string t858)) (fun _ hk => hk.2) (.slice Ao36 t859.length co36)) (fun _ h_ => h_.1)))); (case side4 => exact (Kd.V_reads' HO861.out).2.1); rintro e w54 ⟨rfl, hb⟩; refine ⟨_, rfl, ?_⟩; replace HO853 := am (Kd.N_below (by (with_reducible repeat (first | apply Kd.N_alloc | apply Kd.N_drewN | apply Kd.N_drew)); exact (Kd.N_mono (Kd.N_far (p := ⟨gb863, 3, none⟩) (Kd.N_far (p := ⟨gb863, 2, none⟩) (Kd.N_far (p := ⟨gb863, 1, none⟩) (Kd.N_far (p := ⟨gb863, 0, none⟩) (Kd.N_mono HO853.out (fun k_ hk => (⟨hk, hk.2⟩ : _ ∧ k_ ≠ gb863))) (fun _ hk => hk.2) (.int .i64 t856)) (fun _ hk => hk.2) (.int .u64 t857)) (fun _ hk => hk.2) (.string t858)) (fun _ hk => hk.2) (.slice Ao36 t859.length co36)) (fun _ h_ => h_.1))) hb); replace HO861 := am (Kd.V_below (by (with_reducible repeat (first | apply Kd.V_alloc | apply Kd.V_drewN | apply Kd.V_drew)); exact (Kd.V_mono (Kd.V_far (p := ⟨gb863, 3, none⟩) (Kd.V_far (p := ⟨gb863, 2, none⟩) (Kd.V_far (p := ⟨gb863, 1, none⟩) (Kd.V_far (p := ⟨gb863, 0, none⟩) (Kd.V_mono HO861.out (fun k_ hk => (⟨hk, hk.2⟩ : _ ∧ k_ ≠ gb863))) (fun _ hk => hk.2) (.int .i64 t856)) (fun _ hk => hk.2) (.int .u64 t857)) (fun _ hk => hk.2) (.string t858)) (fun _ hk => hk.2) (.slice Ao36 t859.length co36)) (fun _ h_ => h_.1))) hb); replace BK844 := am (blk_below (g := gb844) (o := .cells #[.int .u64 a0_0, .int .i64 a0_1, .string a0_2, .slice A0_3 l0_3.length c0_3] 46 (0, 0)) (by (with_reducible repeat (first | refine blk_drewN ?_ _ | refine blk_drew ?_ | refine blk_alloc ?_ _)); refine blk_far ?_ NB844_863.out _; (with_reducible repeat (first | refine blk_drewN ?_ _ | refine blk_drew ?_ | refine blk_alloc ?_ _)); refine blk_far ?_ NB844_863.out _; (with_reducible repeat (first | refine blk_drewN ?_ _ | refine blk_drew ?_ | refine blk_alloc ?_ _)); refine blk_far ?_ NB844_863.out _; (with_reducible repeat (first | refine blk_drewN ?_ _ | refine blk_drew ?_ | refine blk_alloc ?_ _)); refine blk_far ?_ NB844_863.out _; (with_reducible repeat (first | refine blk_drewN ?_ _ | refine blk_drew ?_ | refine blk_alloc ?_ _)); exact BK844.out) hb); replace BK845 := am (blk_below (g := gb845) (o := .cells #[.int .i64 a1_0, .int .u64 a1_1, .string a1_2, .slice A1_3 l1_3.length c1_3] 26 (0, 0)) (by (with_reducible repeat (first | refine blk_drewN ?_ _ | refine blk_drew ?_ | refine blk_alloc ?_ _)); refine blk_far ?_ NB845_863.out _; (with_reducible repeat (first | refine blk_drewN ?_ _ | refine blk_drew ?_ | refine blk_alloc ?_ _)); refine blk_far ?_ NB845_863.out _; (with_reducible repeat (first | refine blk_drewN ?_ _ | refine blk_drew ?_ | refine blk_alloc ?_ _)); refine blk_far ?_ NB845_863.out _; (with_reducible repeat (first | refine blk_drewN ?_ _ | refine blk_drew ?_ | refine blk_alloc ?_ _)); refine blk_far ?_ NB845_863.out _; (with_reducible repeat (first | refine blk_drewN ?_ _ | refine blk_drew ?_ | refine blk_alloc ?_ _)); exact BK845.out) hb); replace BK855 := am (blk_below (g := gb855) (o := .cells #[.int .i64 t848, .int .u64 t849, .string t850, .slice Ao28 t851.length co28] 26 (0, 0)) (by (with_reducible repeat (first | refine blk_drewN ?_ _ | refine blk_drew ?_ | refine blk_alloc ?_ _)); refine blk_far ?_ NB855_863.out _; (with_reducible repeat (first | refine blk_drewN ?_ _ | refine blk_drew ?_ | refine blk_alloc ?_ _)); refine blk_far ?_ NB855_863.out _; (with_reducible repeat (first | refine blk_drewN ?_ _ | refine blk_drew ?_ | refine blk_alloc ?_ _)); refine blk_far ?_ NB855_863.out _; (with_reducible repeat (first | refine blk_drewN ?_ _ | refine blk_drew ?_ | refine blk_alloc ?_ _)); refine blk_far ?_ NB855_863.out _; (with_reducible repeat (first | refine blk_drewN ?_ _ | refine blk_drew ?_ | refine blk_alloc ?_ _)); exact BK855.out) hb); replace BK863 := am (blk_below (g := gb863) (o := .cells #[.int .i64 t856, .int .u64 t857, .string t858, .slice Ao36 t859.length co36] 26 (0, 0)) (by (with_reducible repeat (first | refine blk_drewN ?_ _ | refine blk_drew ?_ | refine blk_alloc ?_ _)); refine blk_put (cs := #[.int .i64 t856, .int .u64 t857, .string t858, .slice none 0 0]) ?_ 3 _ rfl; (with_reducible repeat (first | refine blk_drewN ?_ _ | refine blk_drew ?_ | refine blk_alloc ?_ _)); refine blk_put (cs := #[.int .i64 t856, .int .u64 t857, .string (⟨#[]⟩ : ByteArray), .slice none 0 0]) ?_ 2 _ rfl; (with_reducible repeat (first | refine blk_drewN ?_ _ | refine blk_drew ?_ | refine blk_alloc ?_ _)); refine blk_put (cs := #[.int .i64 t856, .int .u64 0, .string (⟨#[]⟩ : ByteArray), .slice none 0 0]) ?_ 1 _ rfl; (with_reducible repeat (first | refine blk_drewN ?_ _ | refine blk_drew ?_ | refine blk_alloc ?_ _)); refine blk_put (cs := #[.int .i64 0, .int .u64 0, .string (⟨#[]⟩ : ByteArray), .slice none 0 0]) ?_ 0 _ rfl; (with_reducible repeat (first | refine blk_drewN ?_ _ | refine blk_drew ?_ | refine blk_alloc ?_ _)); exact BK863.out) hb); replace HB := am (below_step pB hb); (try clear hb); (try clear hb2); (try clear hk); (try clear hi)))
      go_meet
      case rel => exact ⟨_, (true), (by first | rfl | (simp; done) | (simp [*]; done)), H', ⟨by have := HJ2.out; first | omega | exact Nat.le_refl _⟩, ⟨by (with_reducible repeat (first | apply Kd.N_alloc | apply Kd.N_drewN | apply Kd.N_drew)); exact Kd.N_mono HO853.out (fun _ hk => ⟨hk.1.1.1, ⟨hk.1.1.2, ⟨hk.1.2, hk.2⟩⟩⟩)⟩, ⟨by (with_reducible repeat (first | apply Kd.V_alloc | apply Kd.V_drewN | apply Kd.V_drew)); exact Kd.V_mono HO861.out (fun _ hk => ⟨hk.1.1, ⟨hk.1.2.1, ⟨hk.1.2.2.1, ⟨hk.1.2.2.2, hk.2⟩⟩⟩⟩)⟩, ⟨by (with_reducible repeat (first | refine blk_drewN ?_ _ | refine blk_drew ?_ | refine blk_alloc ?_ _)); exact BK844.out⟩, ⟨by (with_reducible repeat (first | refine blk_drewN ?_ _ | refine blk_drew ?_ | refine blk_alloc ?_ _)); exact BK845.out⟩, ⟨by (with_reducible repeat (first | refine blk_drewN ?_ _ | refine blk_drew ?_ | refine blk_alloc ?_ _)); exact BK855.out⟩, ⟨by (with_reducible repeat (first | refine blk_drewN ?_ _ | refine blk_drew ?_ | refine blk_alloc ?_ _)); exact BK863.out⟩, ⟨pB⟩⟩
    case rest =>
     clear HC20
     try clear c1
     try clear c2
     try clear p2
     try clear c3
     try clear c4
     try clear c5
     try clear c6
     try clear c7
     try clear c8
     try clear c12
     try clear c15
     try clear c17
     try clear c18
     try clear c19
     try clear c21
     try clear c25
     try clear c26
     try clear c32
     try clear c33
     try clear c34
     try clear c38
     try clear c39
     try clear c40
     try clear c41
     try clear c43
     try clear c44
     try clear c47
     try clear c48
     try clear c49
     try clear c51
     try clear c52
     try clear q11 q13 q22 q27 q29 q35 q42 q45 q50 q53 q9
     try clear p2
     obtain ⟨kq, x43_19, rfl, HA, HJ19, HO_856003, HO_864003, BK844, BK845, BK855, BK863, HB⟩ := hcut
     cases kq with
     | zero => exact absurd HA.out (by simp [minstrellaw19_SnapEntries.j1])
     | succ kj19 =>
      have H := HA.out
      clear HA
      simp only [minstrellaw19_SnapEntries.j1] at H
      by_cases c55 : x43_19 = true
      ·subst c55
       rw [if_pos rfl] at H
       exact absurd H (by simp)
      ·replace c55 := Bool.eq_false_iff.mpr c55
       subst c55
       rw [if_neg (show ¬ (false = true) by decide)] at H
       replace H := Option.bind_eq_some_iff.mp H
       obtain ⟨⟨t865, t866, t867, t868⟩, A560, H⟩ := H
       try dsimp only at H
       have A56 := am A560
       clear A560
       replace H := Option.bind_eq_some_iff.mp H
       obtain ⟨⟨t871, t872, t873, t874, t877⟩, A570, H⟩ := H
       try dsimp only at H
       have A57 := am A570
       clear A570
       replace H := Option.bind_eq_some_iff.mp H
       obtain ⟨⟨t879, t880, t881, t882, t885⟩, A580, H⟩ := H
       try dsimp only at H
       have A58 := am A580
       clear A580
       have HC59 := am H
       clear H
       have hnb60 := NB845_844.out
       have hnc60 := NB844_845.out
       have hnb61 := NB845_855.out
       have hnc61 := NB855_845.out
       have hnb62 := NB845_863.out
       have hnc62 := NB863_845.out
       have q63 := cf4 BK845.out
       go_upto_region 9 with (first | ((with_reducible refine gate_callee (f := 21) rfl ?_); refine goesL_ (some 46) rfl rfl Tryd.func21 (by kernel_rfl) rfl #[.agg #[.int .i64 a1_0, .int .u64 a1_1, .string a1_2, .slice A1_3 l1_3.length c1_3]] rfl pM ?_; (with_reducible refine (minstrelref07_Own.calls kj19 a1_0 a1_1 a1_2 _ _ l1_3 t865 t866 t867 t868 _ ?side1 ?side2 A56.out).mono ?_); (case side1 => exact pC (Kd.C_below HR1_3.out HB.out)); (case side2 => exact HC1_3.out); rintro e w64 ⟨v869, rfl, ho0, hb⟩; refine ⟨_, rfl, ?_⟩; replace HO_864003 := am (Kd.V_elder' (pV HO_864003.out) (by first | exact Kd.R_base ho0 | exact Kd.N_base ho0) hb); have HO870 := am (Kd.N_lower (Kd.N_mono (ok' := fun k_ => some k_ ≠ (.slice Ao28 t851.length co28 : Value).ownBlock ∧ k_ ≠ gb844 ∧ k_ ≠ gb845 ∧ k_ ≠ gb855 ∧ k_ ≠ gb863) (Kd.R_N (Kd.R_bound ho0)) (fun k_ hk_ => ⟨(Kd.fresh' (Kd.N_lt (pN HO_856003.out)) k_ hk_.2.1), (Kd.freshB (g := gb844) (o := .cells #[.int .u64 a0_0, .int .i64 a0_1, .string a0_2, .slice A0_3 l0_3.length c0_3] 46 (0, 0)) (pK BK844.out) k_ hk_.2.1), (Kd.freshB (g := gb845) (o := .cells #[.int .i64 a1_0, .int .u64 a1_1, .string a1_2, .slice A1_3 l1_3.length c1_3] 26 (0, 0)) (pK BK845.out) k_ hk_.2.1), (Kd.freshB (g := gb855) (o := .cells #[.int .i64 t848, .int .u64 t849, .string t850, .slice Ao28 t851.length co28] 26 (0, 0)) (pK BK855.out) k_ hk_.2.1), (Kd.freshB (g := gb863) (o := .cells #[.int .i64 t856, .int .u64 t857, .string t858, .slice Ao36 t859.length co36] 26 (0, 0)) (pK BK863.out) k_ hk_.2.1)⟩)) (below_size pB)); replace HO_856003 := am (Kd.N_elder' (pN HO_856003.out) (by first | exact Kd.R_base ho0 | exact Kd.N_base ho0) hb); replace BK844 := am (pkb BK844.out hb); replace BK845 := am (pkb BK845.out hb); replace BK855 := am (pkb BK855.out hb); replace BK863 := am (pkb BK863.out hb); replace HB := am (below_step pB hb); (try clear hb); (try clear hb2); (try clear hk); (try clear hi); (try clear ho0); obtain ⟨Ao65, co65, eo65⟩ := Kd.N_slice HO870.out; subst eo65) | ((with_reducible refine gate_callee (f := 20) rfl ?_); refine goesL_ (some 47) rfl rfl Tryd.func20 (by kernel_rfl) rfl #[.agg #[.int .i64 t865, .int .u64 t866, .string t867, .slice Ao65 t868.length co65]] rfl pM ?_; (with_reducible refine (snap_FromEntry.calls kj19 t865 t866 t867 _ _ t868 t871 t872 t873 t874 t877 _ ?side1 ?side2 A57.out).mono ?_); (case side1 => repeat (first | exact (Kd.N_reads' HO870.out).2.2 | (with_reducible refine Kd.C_alloc ?_ _) | (with_reducible refine Kd.C_drewN ?_ _) | (with_reducible refine Kd.C_drew ?_))); (case side2 => exact (Kd.N_reads' HO870.out).2.1); rintro e w66 ⟨v875, rfl, ho0, hb⟩; refine ⟨_, rfl, ?_⟩; replace HO_856003 := am (Kd.N_elder' (pN HO_856003.out) (Kd.R_base ho0) hb); replace HO_864003 := am (Kd.V_elder' (pV HO_864003.out) (Kd.R_base ho0) hb); replace HO870 := am (Kd.N_elder' (pN HO870.out) (Kd.R_base ho0) hb); have HO876 := am (Kd.R_lower ho0 (below_size pB)); replace BK844 := am (pkb BK844.out hb); replace BK845 := am (pkb BK845.out hb); replace BK855 := am (pkb BK855.out hb); replace BK863 := am (pkb BK863.out hb); replace HB := am (below_step pB hb); (try clear hb); (try clear hb2); (try clear hk); (try clear hi); (try clear ho0)) | ((with_reducible refine gate_dst (N := 9) rfl ?_); (try (refine gate_guard (by rfl) ?_; dsimp only)); refine box_event ?hg (N := 9) ?hd (cs := #[.int .u64 0, .int .i64 0, .string (⟨#[]⟩ : ByteArray), .slice none 0 0]) (t := 46) ?hr ?_; (case hd => rfl); (case hg => rfl); (case hr => first | (go_simp; done) | (go_simp; rfl)); intro gb878 hg w67 hbox hb; replace HO_856003 := am (Kd.N_below (Kd.N_elderB (pN HO_856003.out) gb878 (Nat.le_of_eq hg.symm)) hb); replace HO_864003 := am (Kd.V_below (Kd.V_elderB (pV HO_864003.out) gb878 (Nat.le_of_eq hg.symm)) hb); replace HO870 := am (Kd.N_below (Kd.N_elderB (pN HO870.out) gb878 (Nat.le_of_eq hg.symm)) hb); replace HO876 := am (Kd.R_below (pR HO876.out) hb); have BK878 := am (hbox); have GW878 := am ((by rw [hg]; exact (below_size pB) : w.heap.size ≤ gb878)); have GE878 := am ((by rw [hg]; exact (below_size pB) : w.heap.size ≤ gb878)); have NB844_878 := am ((by rw [hg]; exact Nat.ne_of_lt (pkl BK844.out) : gb844 ≠ gb878)); have NB878_844 := am ((by rw [hg]; exact Nat.ne_of_gt (pkl BK844.out) : gb878 ≠ gb844)); replace BK844 := am (pkb BK844.out hb); have NB845_878 := am ((by rw [hg]; exact Nat.ne_of_lt (pkl BK845.out) : gb845 ≠ gb878)); have NB878_845 := am ((by rw [hg]; exact Nat.ne_of_gt (pkl BK845.out) : gb878 ≠ gb845)); replace BK845 := am (pkb BK845.out hb); have NB855_878 := am ((by rw [hg]; exact Nat.ne_of_lt (pkl BK855.out) : gb855 ≠ gb878)); have NB878_855 := am ((by rw [hg]; exact Nat.ne_of_gt (pkl BK855.out) : gb878 ≠ gb855)); replace BK855 := am (pkb BK855.out hb); have NB863_878 := am ((by rw [hg]; exact Nat.ne_of_lt (pkl BK863.out) : gb863 ≠ gb878)); have NB878_863 := am ((by rw [hg]; exact Nat.ne_of_gt (pkl BK863.out) : gb878 ≠ gb863)); replace BK863 := am (pkb BK863.out hb); replace HB := am (below_step pB hb); clear hb hbox hg; have hnb68 := NB878_844.out; have hnc68 := NB844_878.out; have hnb69 := NB878_845.out; have hnc69 := NB845_878.out; have hnb70 := NB878_855.out; have hnc70 := NB855_878.out; have hnb71 := NB878_863.out; have hnc71 := NB863_878.out; have q72 := cf4 BK878.out; obtain ⟨Ao73, co73, eo73⟩ := Kd.R_slice HO876.out; subst eo73; have q74 := cf4 BK845.out) | ((with_reducible refine gate_callee (f := 22) rfl ?_); refine goesL_ (some 52) rfl rfl Tryd.func22 (by kernel_rfl) rfl #[.agg #[.int .i64 a1_0, .int .u64 a1_1, .string a1_2, .slice A1_3 l1_3.length c1_3]] rfl pM ?_; (with_reducible refine (minstrelref19_FromEntry.calls kj19 a1_0 a1_1 a1_2 _ _ l1_3 t879 t880 t881 t882 t885 _ ?side1 ?side2 A58.out).mono ?_); (case side1 => exact Kd.C_below HR1_3.out pB); (case side2 => exact HC1_3.out); rintro e w75 ⟨v883, rfl, ho0, hb⟩; refine ⟨_, rfl, ?_⟩; replace HO_856003 := am (Kd.N_elder' (by (with_reducible repeat (first | apply Kd.N_alloc | apply Kd.N_drewN | apply Kd.N_drew)); exact (Kd.N_mono (Kd.N_far (p := ⟨gb878, 3, none⟩) (Kd.N_far (p := ⟨gb878, 2, none⟩) (Kd.N_far (p := ⟨gb878, 1, none⟩) (Kd.N_far (p := ⟨gb878, 0, none⟩) (Kd.N_mono HO_856003.out (fun k_ hk => (⟨hk, hk.2⟩ : _ ∧ k_ ≠ gb878))) (fun _ hk => hk.2) (.int .u64 t871)) (fun _ hk => hk.2) (.int .i64 t872)) (fun _ hk => hk.2) (.string t873)) (fun _ hk => hk.2) (.slice Ao73 t874.length co73)) (fun _ h_ => h_.1))) (Kd.R_base ho0) hb); replace HO_864003 := am (Kd.V_elder' (by (with_reducible repeat (first | apply Kd.V_alloc | apply Kd.V_drewN | apply Kd.V_drew)); exact (Kd.V_mono (Kd.V_far (p := ⟨gb878, 3, none⟩) (Kd.V_far (p := ⟨gb878, 2, none⟩) (Kd.V_far (p := ⟨gb878, 1, none⟩) (Kd.V_far (p := ⟨gb878, 0, none⟩) (Kd.V_mono HO_864003.out (fun k_ hk => (⟨hk, hk.2⟩ : _ ∧ k_ ≠ gb878))) (fun _ hk => hk.2) (.int .u64 t871)) (fun _ hk => hk.2) (.int .i64 t872)) (fun _ hk => hk.2) (.string t873)) (fun _ hk => hk.2) (.slice Ao73 t874.length co73)) (fun _ h_ => h_.1))) (Kd.R_base ho0) hb); replace HO870 := am (Kd.N_elder' (by (with_reducible repeat (first | apply Kd.N_alloc | apply Kd.N_drewN | apply Kd.N_drew)); exact (Kd.N_mono (Kd.N_far (p := ⟨gb878, 3, none⟩) (Kd.N_far (p := ⟨gb878, 2, none⟩) (Kd.N_far (p := ⟨gb878, 1, none⟩) (Kd.N_far (p := ⟨gb878, 0, none⟩) (Kd.N_mono HO870.out (fun k_ hk => (⟨hk, hk.2⟩ : _ ∧ k_ ≠ gb878))) (fun _ hk => hk.2) (.int .u64 t871)) (fun _ hk => hk.2) (.int .i64 t872)) (fun _ hk => hk.2) (.string t873)) (fun _ hk => hk.2) (.slice Ao73 t874.length co73)) (fun _ h_ => h_.1))) (Kd.R_base ho0) hb); have HO884 := am (Kd.R_lower (Kd.R_new' ho0 (Kd.R_lt (by (with_reducible repeat (first | apply Kd.R_alloc | apply Kd.R_drewN | apply Kd.R_drew)); exact (Kd.R_mono (Kd.R_far (p := ⟨gb878, 3, none⟩) (Kd.R_far (p := ⟨gb878, 2, none⟩) (Kd.R_far (p := ⟨gb878, 1, none⟩) (Kd.R_far (p := ⟨gb878, 0, none⟩) (Kd.R_types HO876.out BK878.out (by decide)) (fun _ hk => hk.2) (.int .u64 t871)) (fun _ hk => hk.2) (.int .i64 t872)) (fun _ hk => hk.2) (.string t873)) (fun _ hk => hk.2) (.slice Ao73 t874.length co73)) (fun _ h_ => h_.1))))) (below_size pB)); replace HO876 := am (Kd.R_elder' (by (with_reducible repeat (first | apply Kd.R_alloc | apply Kd.R_drewN | apply Kd.R_drew)); exact (Kd.R_mono (Kd.R_far (p := ⟨gb878, 3, none⟩) (Kd.R_far (p := ⟨gb878, 2, none⟩) (Kd.R_far (p := ⟨gb878, 1, none⟩) (Kd.R_far (p := ⟨gb878, 0, none⟩) (Kd.R_types HO876.out BK878.out (by decide)) (fun _ hk => hk.2) (.int .u64 t871)) (fun _ hk => hk.2) (.int .i64 t872)) (fun _ hk => hk.2) (.string t873)) (fun _ hk => hk.2) (.slice Ao73 t874.length co73)) (fun _ h_ => h_.1))) (Kd.R_base ho0) hb); replace BK844 := am (blk_below (g := gb844) (o := .cells #[.int .u64 a0_0, .int .i64 a0_1, .string a0_2, .slice A0_3 l0_3.length c0_3] 46 (0, 0)) (by (with_reducible repeat (first | refine blk_drewN ?_ _ | refine blk_drew ?_ | refine blk_alloc ?_ _)); refine blk_far ?_ NB844_878.out _; (with_reducible repeat (first | refine blk_drewN ?_ _ | refine blk_drew ?_ | refine blk_alloc ?_ _)); refine blk_far ?_ NB844_878.out _; (with_reducible repeat (first | refine blk_drewN ?_ _ | refine blk_drew ?_ | refine blk_alloc ?_ _)); refine blk_far ?_ NB844_878.out _; (with_reducible repeat (first | refine blk_drewN ?_ _ | refine blk_drew ?_ | refine blk_alloc ?_ _)); refine blk_far ?_ NB844_878.out _; (with_reducible repeat (first | refine blk_drewN ?_ _ | refine blk_drew ?_ | refine blk_alloc ?_ _)); exact BK844.out) hb); replace BK845 := am (blk_below (g := gb845) (o := .cells #[.int .i64 a1_0, .int .u64 a1_1, .string a1_2, .slice A1_3 l1_3.length c1_3] 26 (0, 0)) (by (with_reducible repeat (first | refine blk_drewN ?_ _ | refine blk_drew ?_ | refine blk_alloc ?_ _)); refine blk_far ?_ NB845_878.out _; (with_reducible repeat (first | refine blk_drewN ?_ _ | refine blk_drew ?_ | refine blk_alloc ?_ _)); refine blk_far ?_ NB845_878.out _; (with_reducible repeat (first | refine blk_drewN ?_ _ | refine blk_drew ?_ | refine blk_alloc ?_ _)); refine blk_far ?_ NB845_878.out _; (with_reducible repeat (first | refine blk_drewN ?_ _ | refine blk_drew ?_ | refine blk_alloc ?_ _)); refine blk_far ?_ NB845_878.out _; (with_reducible repeat (first | refine blk_drewN ?_ _ | refine blk_drew ?_ | refine blk_alloc ?_ _)); exact BK845.out) hb); replace BK855 := am (blk_below (g := gb855) (o := .cells #[.int .i64 t848, .int .u64 t849, .string t850, .slice Ao28 t851.length co28] 26 (0, 0)) (by (with_reducible repeat (first | refine blk_drewN ?_ _ | refine blk_drew ?_ | refine blk_alloc ?_ _)); refine blk_far ?_ NB855_878.out _; (with_reducible repeat (first | refine blk_drewN ?_ _ | refine blk_drew ?_ | refine blk_alloc ?_ _)); refine blk_far ?_ NB855_878.out _; (with_reducible repeat (first | refine blk_drewN ?_ _ | refine blk_drew ?_ | refine blk_alloc ?_ _)); refine blk_far ?_ NB855_878.out _; (with_reducible repeat (first | refine blk_drewN ?_ _ | refine blk_drew ?_ | refine blk_alloc ?_ _)); refine blk_far ?_ NB855_878.out _; (with_reducible repeat (first | refine blk_drewN ?_ _ | refine blk_drew ?_ | refine blk_alloc ?_ _)); exact BK855.out) hb); replace BK863 := am (blk_below (g := gb863) (o := .cells #[.int .i64 t856, .int .u64 t857, .string t858, .slice Ao36 t859.length co36] 26 (0, 0)) (by (with_reducible repeat (first | refine blk_drewN ?_ _ | refine blk_drew ?_ | refine blk_alloc ?_ _)); refine blk_far ?_ NB863_878.out _; (with_reducible repeat (first | refine blk_drewN ?_ _ | refine blk_drew ?_ | refine blk_alloc ?_ _)); refine blk_far ?_ NB863_878.out _; (with_reducible repeat (first | refine blk_drewN ?_ _ | refine blk_drew ?_ | refine blk_alloc ?_ _)); refine blk_far ?_ NB863_878.out _; (with_reducible repeat (first | refine blk_drewN ?_ _ | refine blk_drew ?_ | refine blk_alloc ?_ _)); refine blk_far ?_ NB863_878.out _; (with_reducible repeat (first | refine blk_drewN ?_ _ | refine blk_drew ?_ | refine blk_alloc ?_ _)); exact BK863.out) hb); replace BK878 := am (blk_below (g := gb878) (o := .cells #[.int .u64 t871, .int .i64 t872, .string t873, .slice Ao73 t874.length co73] 46 (0, 0)) (by (with_reducible repeat (first | refine blk_drewN ?_ _ | refine blk_drew ?_ | refine blk_alloc ?_ _)); refine blk_put (cs := #[.int .u64 t871, .int .i64 t872, .string t873, .slice none 0 0]) ?_ 3 _ rfl; (with_reducible repeat (first | refine blk_drewN ?_ _ | refine blk_drew ?_ | refine blk_alloc ?_ _)); refine blk_put (cs := #[.int .u64 t871, .int .i64 t872, .string (⟨#[]⟩ : ByteArray), .slice none 0 0]) ?_ 2 _ rfl; (with_reducible repeat (first | refine blk_drewN ?_ _ | refine blk_drew ?_ | refine blk_alloc ?_ _)); refine blk_put (cs := #[.int .u64 t871, .int .i64 0, .string (⟨#[]⟩ : ByteArray), .slice none 0 0]) ?_ 1 _ rfl; (with_reducible repeat (first | refine blk_drewN ?_ _ | refine blk_drew ?_ | refine blk_alloc ?_ _)); refine blk_put (cs := #[.int .u64 0, .int .i64 0, .string (⟨#[]⟩ : ByteArray), .slice none 0 0]) ?_ 0 _ rfl; (with_reducible repeat (first | refine blk_drewN ?_ _ | refine blk_drew ?_ | refine blk_alloc ?_ _)); exact BK878.out) hb); replace HB := am (below_step pB hb); (try clear hb); (try clear hb2); (try clear hk); (try clear hi); (try clear ho0)) | ((with_reducible refine gate_dst (N := 11) rfl ?_); (try (refine gate_guard (by rfl) ?_; dsimp only)); refine box_event ?hg (N := 11) ?hd (cs := #[.int .u64 0, .int .i64 0, .string (⟨#[]⟩ : ByteArray), .slice none 0 0]) (t := 46) ?hr ?_; (case hd => rfl); (case hg => rfl); (case hr => first | (go_simp; done) | (go_simp; rfl)); intro gb886 hg w76 hbox hb; replace HO_856003 := am (Kd.N_below (Kd.N_elderB (pN HO_856003.out) gb886 (Nat.le_of_eq hg.symm)) hb); replace HO_864003 := am (Kd.V_below (Kd.V_elderB (pV HO_864003.out) gb886 (Nat.le_of_eq hg.symm)) hb); replace HO870 := am (Kd.N_below (Kd.N_elderB (pN HO870.out) gb886 (Nat.le_of_eq hg.symm)) hb); replace HO876 := am (Kd.R_below (pR HO876.out) hb); replace HO884 := am (Kd.R_below (pR HO884.out) hb); have BK886 := am (hbox); have GW886 := am ((by rw [hg]; exact (below_size pB) : w.heap.size ≤ gb886)); have GE886 := am ((by rw [hg]; exact (below_size pB) : w.heap.size ≤ gb886)); have NB844_886 := am ((by rw [hg]; exact Nat.ne_of_lt (pkl BK844.out) : gb844 ≠ gb886)); have NB886_844 := am ((by rw [hg]; exact Nat.ne_of_gt (pkl BK844.out) : gb886 ≠ gb844)); replace BK844 := am (pkb BK844.out hb); have NB845_886 := am ((by rw [hg]; exact Nat.ne_of_lt (pkl BK845.out) : gb845 ≠ gb886)); have NB886_845 := am ((by rw [hg]; exact Nat.ne_of_gt (pkl BK845.out) : gb886 ≠ gb845)); replace BK845 := am (pkb BK845.out hb); have NB855_886 := am ((by rw [hg]; exact Nat.ne_of_lt (pkl BK855.out) : gb855 ≠ gb886)); have NB886_855 := am ((by rw [hg]; exact Nat.ne_of_gt (pkl BK855.out) : gb886 ≠ gb855)); replace BK855 := am (pkb BK855.out hb); have NB863_886 := am ((by rw [hg]; exact Nat.ne_of_lt (pkl BK863.out) : gb863 ≠ gb886)); have NB886_863 := am ((by rw [hg]; exact Nat.ne_of_gt (pkl BK863.out) : gb886 ≠ gb863)); replace BK863 := am (pkb BK863.out hb); have NB878_886 := am ((by rw [hg]; exact Nat.ne_of_lt (pkl BK878.out) : gb878 ≠ gb886)); have NB886_878 := am ((by rw [hg]; exact Nat.ne_of_gt (pkl BK878.out) : gb886 ≠ gb878)); replace BK878 := am (pkb BK878.out hb); replace HB := am (below_step pB hb); clear hb hbox hg; have hnb77 := NB886_844.out; have hnc77 := NB844_886.out; have hnb78 := NB886_845.out; have hnc78 := NB845_886.out; have hnb79 := NB886_855.out; have hnc79 := NB855_886.out; have hnb80 := NB886_863.out; have hnc80 := NB863_886.out; have hnb81 := NB886_878.out; have hnc81 := NB878_886.out; have q82 := cf4 BK886.out; obtain ⟨Ao83, co83, eo83⟩ := Kd.R_slice HO884.out; subst eo83))
       (try simp only [Act.put, List.setIfInBounds_toArray, List.set_cons_zero, List.set_cons_succ])
       go_cut [63] (fun v63 wc => ∃ (kq : Nat) (x63_58 : Bool), v63 = .bool x63_58 ∧ Aside0 (minstrellaw19_SnapEntries.j2 kq t854 x63_58 a0_0 a0_1 a0_2 l0_3 t848 t849 t850 t851 = some r) ∧ Aside0 (kq ≤ kj19) ∧ Aside0 (Kd.N k26 26 wc w.heap.size (fun k_ => some k_ ≠ ((.slice Ao73 t874.length co73) : Value).ownBlock ∧ some k_ ≠ ((.slice Ao83 t882.length co83) : Value).ownBlock ∧ k_ ≠ gb844 ∧ k_ ≠ gb845 ∧ k_ ≠ gb855 ∧ k_ ≠ gb863 ∧ k_ ≠ gb878 ∧ k_ ≠ gb886) (.slice Ao28 t851.length co28) t851) ∧ Aside0 (Kd.V k26 26 wc w.heap.size (fun k_ => some k_ ≠ ((.slice Ao28 t851.length co28) : Value).ownBlock ∧ some k_ ≠ ((.slice Ao73 t874.length co73) : Value).ownBlock ∧ some k_ ≠ ((.slice Ao83 t882.length co83) : Value).ownBlock ∧ k_ ≠ gb844 ∧ k_ ≠ gb845 ∧ k_ ≠ gb855 ∧ k_ ≠ gb863 ∧ k_ ≠ gb878 ∧ k_ ≠ gb886) (.slice Ao36 t859.length co36) t859) ∧ Aside0 (Kd.R (Kd.int .i64) 3 wc w.heap.size (fun k_ => some k_ ≠ ((.slice Ao83 t882.length co83) : Value).ownBlock) (.slice Ao73 t874.length co73) t874) ∧ Aside0 (Kd.R (Kd.int .i64) 3 wc w.heap.size (fun k_ => some k_ ≠ ((.slice Ao73 t874.length co73) : Value).ownBlock) (.slice Ao83 t882.length co83) t882) ∧ Aside0 (wc.heap[gb844]? = some (.cells #[.int .u64 a0_0, .int .i64 a0_1, .string a0_2, (.slice A0_3 l0_3.length c0_3)] 46 (0, 0))) ∧ Aside0 (wc.heap[gb845]? = some (.cells #[.int .i64 a1_0, .int .u64 a1_1, .string a1_2, (.slice A1_3 l1_3.length c1_3)] 26 (0, 0))) ∧ Aside0 (wc.heap[gb855]? = some (.cells #[.int .i64 t848, .int .u64 t849, .string t850, (.slice Ao28 t851.length co28)] 26 (0, 0))) ∧ Aside0 (wc.heap[gb863]? = some (.cells #[.int .i64 t856, .int .u64 t857, .string t858, (.slice Ao36 t859.length co36)] 26 (0, 0))) ∧ Aside0 (wc.heap[gb878]? = some (.cells #[.int .u64 t871, .int .i64 t872, .string t873, (.slice Ao73 t874.length co73)] 46 (0, 0))) ∧ Aside0 (wc.heap[gb886]? = some (.cells #[.int .u64 t879, .int .i64 t880, .string t881, (.slice Ao83 t882.length co83)] 46 (0, 0))) ∧ Aside0 (Below w.heap.size w wc))
       case first =>
        have H := HC59.out
        clear HC59
        by_cases c84 : t877 = t885
        ·rw [if_pos c84] at H
         have c84b0 : (t877 == t885) = true := beq_iff_eq.mpr c84
         have c84b1 : (t877 != t885) = false := bne_eq_false_iff_eq.mpr c84
         clear c84
         (first | rw [c84b0] | (simp only [i64_w, i32_w]; rw [c84b0]) | rw [c84b1] | (simp only [i64_w, i32_w]; rw [c84b1]) | skip)
         replace H := Option.bind_eq_some_iff.mp H
         obtain ⟨t887, A850, H⟩ := H
         try dsimp only at H
         have A85 := am A850
         clear A850
         have H' := am H
         clear H
         have hnb86 := NB878_844.out
         have hnc86 := NB844_878.out
         have hnb87 := NB878_845.out
         have hnc87 := NB845_878.out
         have hnb88 := NB878_855.out
         have hnc88 := NB855_878.out
         have hnb89 := NB878_863.out
         have hnc89 := NB863_878.out
         have hnb90 := NB878_886.out
         have hnc90 := NB886_878.out
         have q91 := cf4 BK878.out
         have hnb92 := NB886_844.out
         have hnc92 := NB844_886.out
         have hnb93 := NB886_845.out
         have hnc93 := NB845_886.out
         have hnb94 := NB886_855.out
         have hnc94 := NB855_886.out
         have hnb95 := NB886_863.out
         have hnc95 := NB863_886.out
         have q96 := cf4 BK886.out
         go_wp2_with (first | (go_at_call 23; (with_reducible refine (minstrelref19_Same.calls kj19 t871 t872 t873 _ _ t874 t879 t880 t881 _ _ t882 t887 _ ?side1 ?side2 ?side3 ?side4 A85.out).mono ?_); (case side1 => refine (Kd.R_reads' (e := 3) (base := w.heap.size) (ok := fun k_ => (True ∧ some k_ ≠ (.slice Ao83 t882.length co83 : Value).ownBlock)) (n := t874.length) (c := co73) ?_).2.2; exact (by (with_reducible repeat (first | apply Kd.R_alloc | apply Kd.R_drewN | apply Kd.R_drew)); exact (Kd.R_mono (Kd.R_far (p := ⟨gb886, 3, none⟩) (Kd.R_far (p := ⟨gb886, 2, none⟩) (Kd.R_far (p := ⟨gb886, 1, none⟩) (Kd.R_far (p := ⟨gb886, 0, none⟩) (Kd.R_types HO876.out BK886.out (by decide)) (fun _ hk => hk.2) (.int .u64 t879)) (fun _ hk => hk.2) (.int .i64 t880)) (fun _ hk => hk.2) (.string t881)) (fun _ hk => hk.2) (.slice Ao83 t882.length co83)) (fun _ h_ => h_.1)))); (case side2 => exact (Kd.R_reads' HO876.out).2.1); (case side3 => refine (Kd.R_reads' (e := 3) (base := w.heap.size) (ok := fun k_ => (True ∧ some k_ ≠ (.slice Ao73 t874.length co73 : Value).ownBlock)) (n := t882.length) (c := co83) ?_).2.2; exact (by (with_reducible repeat (first | apply Kd.R_alloc | apply Kd.R_drewN | apply Kd.R_drew)); exact (Kd.R_mono (Kd.R_far (p := ⟨gb886, 3, none⟩) (Kd.R_far (p := ⟨gb886, 2, none⟩) (Kd.R_far (p := ⟨gb886, 1, none⟩) (Kd.R_far (p := ⟨gb886, 0, none⟩) (Kd.R_types HO884.out BK886.out (by decide)) (fun _ hk => hk.2) (.int .u64 t879)) (fun _ hk => hk.2) (.int .i64 t880)) (fun _ hk => hk.2) (.string t881)) (fun _ hk => hk.2) (.slice Ao83 t882.length co83)) (fun _ h_ => h_.1)))); (case side4 => exact (Kd.R_reads' HO884.out).2.1); rintro e w97 ⟨rfl, hb⟩; replace HO_856003 := am (Kd.N_below (by (with_reducible repeat (first | apply Kd.N_alloc | apply Kd.N_drewN | apply Kd.N_drew)); exact (Kd.N_mono (Kd.N_far (p := ⟨gb886, 3, none⟩) (Kd.N_far (p := ⟨gb886, 2, none⟩) (Kd.N_far (p := ⟨gb886, 1, none⟩) (Kd.N_far (p := ⟨gb886, 0, none⟩) (Kd.N_mono HO_856003.out (fun k_ hk => (⟨hk, hk.2⟩ : _ ∧ k_ ≠ gb886))) (fun _ hk => hk.2) (.int .u64 t879)) (fun _ hk => hk.2) (.int .i64 t880)) (fun _ hk => hk.2) (.string t881)) (fun _ hk => hk.2) (.slice Ao83 t882.length co83)) (fun _ h_ => h_.1))) hb); replace HO_864003 := am (Kd.V_below (by (with_reducible repeat (first | apply Kd.V_alloc | apply Kd.V_drewN | apply Kd.V_drew)); exact (Kd.V_mono (Kd.V_far (p := ⟨gb886, 3, none⟩) (Kd.V_far (p := ⟨gb886, 2, none⟩) (Kd.V_far (p := ⟨gb886, 1, none⟩) (Kd.V_far (p := ⟨gb886, 0, none⟩) (Kd.V_mono HO_864003.out (fun k_ hk => (⟨hk, hk.2⟩ : _ ∧ k_ ≠ gb886))) (fun _ hk => hk.2) (.int .u64 t879)) (fun _ hk => hk.2) (.int .i64 t880)) (fun _ hk => hk.2) (.string t881)) (fun _ hk => hk.2) (.slice Ao83 t882.length co83)) (fun _ h_ => h_.1))) hb); replace HO870 := am (Kd.N_below (by (with_reducible repeat (first | apply Kd.N_alloc | apply Kd.N_drewN | apply Kd.N_drew)); exact (Kd.N_mono (Kd.N_far (p := ⟨gb886, 3, none⟩) (Kd.N_far (p := ⟨gb886, 2, none⟩) (Kd.N_far (p := ⟨gb886, 1, none⟩) (Kd.N_far (p := ⟨gb886, 0, none⟩) (Kd.N_mono HO870.out (fun k_ hk => (⟨hk, hk.2⟩ : _ ∧ k_ ≠ gb886))) (fun _ hk => hk.2) (.int .u64 t879)) (fun _ hk => hk.2) (.int .i64 t880)) (fun _ hk => hk.2) (.string t881)) (fun _ hk => hk.2) (.slice Ao83 t882.length co83)) (fun _ h_ => h_.1))) hb); replace HO876 := am (Kd.R_below (by (with_reducible repeat (first | apply Kd.R_alloc | apply Kd.R_drewN | apply Kd.R_drew)); exact (Kd.R_mono (Kd.R_far (p := ⟨gb886, 3, none⟩) (Kd.R_far (p := ⟨gb886, 2, none⟩) (Kd.R_far (p := ⟨gb886, 1, none⟩) (Kd.R_far (p := ⟨gb886, 0, none⟩) (Kd.R_types HO876.out BK886.out (by decide)) (fun _ hk => hk.2) (.int .u64 t879)) (fun _ hk => hk.2) (.int .i64 t880)) (fun _ hk => hk.2) (.string t881)) (fun _ hk => hk.2) (.slice Ao83 t882.length co83)) (fun _ h_ => h_.1))) hb); replace HO884 := am (Kd.R_below (by (with_reducible repeat (first | apply Kd.R_alloc | apply Kd.R_drewN | apply Kd.R_drew)); exact (Kd.R_mono (Kd.R_far (p := ⟨gb886, 3, none⟩) (Kd.R_far (p := ⟨gb886, 2, none⟩) (Kd.R_far (p := ⟨gb886, 1, none⟩) (Kd.R_far (p := ⟨gb886, 0, none⟩) (Kd.R_types HO884.out BK886.out (by decide)) (fun _ hk => hk.2) (.int .u64 t879)) (fun _ hk => hk.2) (.int .i64 t880)) (fun _ hk => hk.2) (.string t881)) (fun _ hk => hk.2) (.slice Ao83 t882.length co83)) (fun _ h_ => h_.1))) hb); replace BK844 := am (blk_below (g := gb844) (o := .cells #[.int .u64 a0_0, .int .i64 a0_1, .string a0_2, .slice A0_3 l0_3.length c0_3] 46 (0, 0)) (by (with_reducible repeat (first | refine blk_drewN ?_ _ | refine blk_drew ?_ | refine blk_alloc ?_ _)); refine blk_far ?_ NB844_886.out _; (with_reducible repeat (first | refine blk_drewN ?_ _ | refine blk_drew ?_ | refine blk_alloc ?_ _)); refine blk_far ?_ NB844_886.out _; (with_reducible repeat (first | refine blk_drewN ?_ _ | refine blk_drew ?_ | refine blk_alloc ?_ _)); refine blk_far ?_ NB844_886.out _; (with_reducible repeat (first | refine blk_drewN ?_ _ | refine blk_drew ?_ | refine blk_alloc ?_ _)); refine blk_far ?_ NB844_886.out _; (with_reducible repeat (first | refine blk_drewN ?_ _ | refine blk_drew ?_ | refine blk_alloc ?_ _)); exact BK844.out) hb); replace BK845 := am (blk_below (g := gb845) (o := .cells #[.int .i64 a1_0, .int .u64 a1_1, .string a1_2, .slice A1_3 l1_3.length c1_3] 26 (0, 0)) (by (with_reducible repeat (first | refine blk_drewN ?_ _ | refine blk_drew ?_ | refine blk_alloc ?_ _)); refine blk_far ?_ NB845_886.out _; (with_reducible repeat (first | refine blk_drewN ?_ _ | refine blk_drew ?_ | refine blk_alloc ?_ _)); refine blk_far ?_ NB845_886.out _; (with_reducible repeat (first | refine blk_drewN ?_ _ | refine blk_drew ?_ | refine blk_alloc ?_ _)); refine blk_far ?_ NB845_886.out _; (with_reducible repeat (first | refine blk_drewN ?_ _ | refine blk_drew ?_ | refine blk_alloc ?_ _)); refine blk_far ?_ NB845_886.out _; (with_reducible repeat (first | refine blk_drewN ?_ _ | refine blk_drew ?_ | refine blk_alloc ?_ _)); exact BK845.out) hb); replace BK855 := am (blk_below (g := gb855) (o := .cells #[.int .i64 t848, .int .u64 t849, .string t850, .slice Ao28 t851.length co28] 26 (0, 0)) (by (with_reducible repeat (first | refine blk_drewN ?_ _ | refine blk_drew ?_ | refine blk_alloc ?_ _)); refine blk_far ?_ NB855_886.out _; (with_reducible repeat (first | refine blk_drewN ?_ _ | refine blk_drew ?_ | refine blk_alloc ?_ _)); refine blk_far ?_ NB855_886.out _; (with_reducible repeat (first | refine blk_drewN ?_ _ | refine blk_drew ?_ | refine blk_alloc ?_ _)); refine blk_far ?_ NB855_886.out _; (with_reducible repeat (first | refine blk_drewN ?_ _ | refine blk_drew ?_ | refine blk_alloc ?_ _)); refine blk_far ?_ NB855_886.out _; (with_reducible repeat (first | refine blk_drewN ?_ _ | refine blk_drew ?_ | refine blk_alloc ?_ _)); exact BK855.out) hb); replace BK863 := am (blk_below (g := gb863) (o := .cells #[.int .i64 t856, .int .u64 t857, .string t858, .slice Ao36 t859.length co36] 26 (0, 0)) (by (with_reducible repeat (first | refine blk_drewN ?_ _ | refine blk_drew ?_ | refine blk_alloc ?_ _)); refine blk_far ?_ NB863_886.out _; (with_reducible repeat (first | refine blk_drewN ?_ _ | refine blk_drew ?_ | refine blk_alloc ?_ _)); refine blk_far ?_ NB863_886.out _; (with_reducible repeat (first | refine blk_drewN ?_ _ | refine blk_drew ?_ | refine blk_alloc ?_ _)); refine blk_far ?_ NB863_886.out _; (with_reducible repeat (first | refine blk_drewN ?_ _ | refine blk_drew ?_ | refine blk_alloc ?_ _)); refine blk_far ?_ NB863_886.out _; (with_reducible repeat (first | refine blk_drewN ?_ _ | refine blk_drew ?_ | refine blk_alloc ?_ _)); exact BK863.out) hb); replace BK878 := am (blk_below (g := gb878) (o := .cells #[.int .u64 t871, .int .i64 t872, .string t873, .slice Ao73 t874.length co73] 46 (0, 0)) (by (with_reducible repeat (first | refine blk_drewN ?_ _ | refine blk_drew ?_ | refine blk_alloc ?_ _)); refine blk_far ?_ NB878_886.out _; (with_reducible repeat (first | refine blk_drewN ?_ _ | refine blk_drew ?_ | refine blk_alloc ?_ _)); refine blk_far ?_ NB878_886.out _; (with_reducible repeat (first | refine blk_drewN ?_ _ | refine blk_drew ?_ | refine blk_alloc ?_ _)); refine blk_far ?_ NB878_886.out _; (with_reducible repeat (first | refine blk_drewN ?_ _ | refine blk_drew ?_ | refine blk_alloc ?_ _)); refine blk_far ?_ NB878_886.out _; (with_reducible repeat (first | refine blk_drewN ?_ _ | refine blk_drew ?_ | refine blk_alloc ?_ _)); exact BK878.out) hb); replace BK886 := am (blk_below (g := gb886) (o := .cells #[.int .u64 t879, .int .i64 t880, .string t881, .slice Ao83 t882.length co83] 46 (0, 0)) (by (with_reducible repeat (first | refine blk_drewN ?_ _ | refine blk_drew ?_ | refine blk_alloc ?_ _)); refine blk_put (cs := #[.int .u64 t879, .int .i64 t880, .string t881, .slice none 0 0]) ?_ 3 _ rfl; (with_reducible repeat (first | refine blk_drewN ?_ _ | refine blk_drew ?_ | refine blk_alloc ?_ _)); refine blk_put (cs := #[.int .u64 t879, .int .i64 t880, .string (⟨#[]⟩ : ByteArray), .slice none 0 0]) ?_ 2 _ rfl; (with_reducible repeat (first | refine blk_drewN ?_ _ | refine blk_drew ?_ | refine blk_alloc ?_ _)); refine blk_put (cs := #[.int .u64 t879, .int .i64 0, .string (⟨#[]⟩ : ByteArray), .slice none 0 0]) ?_ 1 _ rfl; (with_reducible repeat (first | refine blk_drewN ?_ _ | refine blk_drew ?_ | refine blk_alloc ?_ _)); refine blk_put (cs := #[.int .u64 0, .int .i64 0, .string (⟨#[]⟩ : ByteArray), .slice none 0 0]) ?_ 0 _ rfl; (with_reducible repeat (first | refine blk_drewN ?_ _ | refine blk_drew ?_ | refine blk_alloc ?_ _)); exact BK886.out) hb); replace HB := am (below_step pB hb); (try clear hb); (try clear hb2); (try clear hk); (try clear hi)))
         go_meet
         case rel => exact ⟨_, (!t887), (by first | rfl | (simp; done) | (simp [*]; done)), H', ⟨by have := HJ2.out; have := HJ19.out; first | omega | exact Nat.le_refl _⟩, ⟨by (with_reducible repeat (first | apply Kd.N_alloc | apply Kd.N_drewN | apply Kd.N_drew)); exact Kd.N_mono HO_856003.out (fun _ hk => ⟨hk.1.1.1.2, ⟨hk.1.2, ⟨hk.1.1.1.1.1.1, ⟨hk.1.1.1.1.1.2.1, ⟨hk.1.1.1.1.1.2.2.1, ⟨hk.1.1.1.1.1.2.2.2, ⟨hk.1.1.2, hk.2⟩⟩⟩⟩⟩⟩⟩)⟩, ⟨by (with_reducible repeat (first | apply Kd.V_alloc | apply Kd.V_drewN | apply Kd.V_drew)); exact Kd.V_mono HO_864003.out (fun _ hk => ⟨hk.1.1.1.1.1.1, ⟨hk.1.1.1.2, ⟨hk.1.2, ⟨hk.1.1.1.1.1.2.1, ⟨hk.1.1.1.1.1.2.2.1, ⟨hk.1.1.1.1.1.2.2.2.1, ⟨hk.1.1.1.1.1.2.2.2.2, ⟨hk.1.1.2, hk.2⟩⟩⟩⟩⟩⟩⟩⟩)⟩, ⟨by (with_reducible repeat (first | apply Kd.R_alloc | apply Kd.R_drewN | apply Kd.R_drew)); exact Kd.R_mono HO876.out (fun _ hk => hk.2)⟩, ⟨by (with_reducible repeat (first | apply Kd.R_alloc | apply Kd.R_drewN | apply Kd.R_drew)); exact Kd.R_mono HO884.out (fun _ hk => hk.2)⟩, ⟨by (with_reducible repeat (first | refine blk_drewN ?_ _ | refine blk_drew ?_ | refine blk_alloc ?_ _)); exact BK844.out⟩, ⟨by (with_reducible repeat (first | refine blk_drewN ?_ _ | refine blk_drew ?_ | refine blk_alloc ?_ _)); exact BK845.out⟩, ⟨by (with_reducible repeat (first | refine blk_drewN ?_ _ | refine blk_drew ?_ | refine blk_alloc ?_ _)); exact BK855.out⟩, ⟨by (with_reducible repeat (first | refine blk_drewN ?_ _ | refine blk_drew ?_ | refine blk_alloc ?_ _)); exact BK863.out⟩, ⟨by (with_reducible repeat (first | refine blk_drewN ?_ _ | refine blk_drew ?_ | refine blk_alloc ?_ _)); exact BK878.out⟩, ⟨by (with_reducible repeat (first | refine blk_drewN ?_ _ | refine blk_drew ?_ | refine blk_alloc ?_ _)); exact BK886.out⟩, ⟨pB⟩⟩
        ·rw [if_neg c84] at H
         have c84b0 : (t877 == t885) = false := beq_eq_false_iff_ne.mpr c84
         have c84b1 : (t877 != t885) = true := bne_iff_ne.mpr c84
         (first | rw [c84b0] | (simp only [i64_w, i32_w]; rw [c84b0]) | rw [c84b1] | (simp only [i64_w, i32_w]; rw [c84b1]) | skip)
         have H' := am H
         clear H
         go_wp2
         go_meet
         case rel => exact ⟨_, (true), (by first | rfl | (simp; done) | (simp [*]; done)), H', ⟨by have := HJ2.out; have := HJ19.out; first | omega | exact Nat.le_refl _⟩, ⟨by (with_reducible repeat (first | apply Kd.N_alloc | apply Kd.N_drewN | apply Kd.N_drew)); exact Kd.N_mono (Kd.N_far (p := ⟨gb886, 3, none⟩) (Kd.N_far (p := ⟨gb886, 2, none⟩) (Kd.N_far (p := ⟨gb886, 1, none⟩) (Kd.N_far (p := ⟨gb886, 0, none⟩) (Kd.N_mono HO_856003.out (fun k_ hk => (⟨hk, hk.2⟩ : _ ∧ k_ ≠ gb886))) (fun _ hk => hk.2) (.int .u64 t879)) (fun _ hk => hk.2) (.int .i64 t880)) (fun _ hk => hk.2) (.string t881)) (fun _ hk => hk.2) (.slice Ao83 t882.length co83)) (fun _ hk => ⟨hk.1.1.1.1.2, ⟨hk.1.1.2, ⟨hk.1.1.1.1.1.1.1, ⟨hk.1.1.1.1.1.1.2.1, ⟨hk.1.1.1.1.1.1.2.2.1, ⟨hk.1.1.1.1.1.1.2.2.2, ⟨hk.1.1.1.2, hk.1.2⟩⟩⟩⟩⟩⟩⟩)⟩, ⟨by (with_reducible repeat (first | apply Kd.V_alloc | apply Kd.V_drewN | apply Kd.V_drew)); exact Kd.V_mono (Kd.V_far (p := ⟨gb886, 3, none⟩) (Kd.V_far (p := ⟨gb886, 2, none⟩) (Kd.V_far (p := ⟨gb886, 1, none⟩) (Kd.V_far (p := ⟨gb886, 0, none⟩) (Kd.V_mono HO_864003.out (fun k_ hk => (⟨hk, hk.2⟩ : _ ∧ k_ ≠ gb886))) (fun _ hk => hk.2) (.int .u64 t879)) (fun _ hk => hk.2) (.int .i64 t880)) (fun _ hk => hk.2) (.string t881)) (fun _ hk => hk.2) (.slice Ao83 t882.length co83)) (fun _ hk => ⟨hk.1.1.1.1.1.1.1, ⟨hk.1.1.1.1.2, ⟨hk.1.1.2, ⟨hk.1.1.1.1.1.1.2.1, ⟨hk.1.1.1.1.1.1.2.2.1, ⟨hk.1.1.1.1.1.1.2.2.2.1, ⟨hk.1.1.1.1.1.1.2.2.2.2, ⟨hk.1.1.1.2, hk.1.2⟩⟩⟩⟩⟩⟩⟩⟩)⟩, ⟨by (with_reducible repeat (first | apply Kd.R_alloc | apply Kd.R_drewN | apply Kd.R_drew)); exact Kd.R_mono (Kd.R_far (p := ⟨gb886, 3, none⟩) (Kd.R_far (p := ⟨gb886, 2, none⟩) (Kd.R_far (p := ⟨gb886, 1, none⟩) (Kd.R_far (p := ⟨gb886, 0, none⟩) (Kd.R_types HO876.out BK886.out (by decide)) (fun _ hk => hk.2) (.int .u64 t879)) (fun _ hk => hk.2) (.int .i64 t880)) (fun _ hk => hk.2) (.string t881)) (fun _ hk => hk.2) (.slice Ao83 t882.length co83)) (fun _ hk => hk.1.2)⟩, ⟨by (with_reducible repeat (first | apply Kd.R_alloc | apply Kd.R_drewN | apply Kd.R_drew)); exact Kd.R_mono (Kd.R_far (p := ⟨gb886, 3, none⟩) (Kd.R_far (p := ⟨gb886, 2, none⟩) (Kd.R_far (p := ⟨gb886, 1, none⟩) (Kd.R_far (p := ⟨gb886, 0, none⟩) (Kd.R_types HO884.out BK886.out (by decide)) (fun _ hk => hk.2) (.int .u64 t879)) (fun _ hk => hk.2) (.int .i64 t880)) (fun _ hk => hk.2) (.string t881)) (fun _ hk => hk.2) (.slice Ao83 t882.length co83)) (fun _ hk => hk.1.2)⟩, ⟨by (with_reducible repeat (first | refine blk_drewN ?_ _ | refine blk_drew ?_ | refine blk_alloc ?_ _)); refine blk_far ?_ NB844_886.out _; (with_reducible repeat (first | refine blk_drewN ?_ _ | refine blk_drew ?_ | refine blk_alloc ?_ _)); refine blk_far ?_ NB844_886.out _; (with_reducible repeat (first | refine blk_drewN ?_ _ | refine blk_drew ?_ | refine blk_alloc ?_ _)); refine blk_far ?_ NB844_886.out _; (with_reducible repeat (first | refine blk_drewN ?_ _ | refine blk_drew ?_ | refine blk_alloc ?_ _)); refine blk_far ?_ NB844_886.out _; (with_reducible repeat (first | refine blk_drewN ?_ _ | refine blk_drew ?_ | refine blk_alloc ?_ _)); exact BK844.out⟩, ⟨by (with_reducible repeat (first | refine blk_drewN ?_ _ | refine blk_drew ?_ | refine blk_alloc ?_ _)); refine blk_far ?_ NB845_886.out _; (with_reducible repeat (first | refine blk_drewN ?_ _ | refine blk_drew ?_ | refine blk_alloc ?_ _)); refine blk_far ?_ NB845_886.out _; (with_reducible repeat (first | refine blk_drewN ?_ _ | refine blk_drew ?_ | refine blk_alloc ?_ _)); refine blk_far ?_ NB845_886.out _; (with_reducible repeat (first | refine blk_drewN ?_ _ | refine blk_drew ?_ | refine blk_alloc ?_ _)); refine blk_far ?_ NB845_886.out _; (with_reducible repeat (first | refine blk_drewN ?_ _ | refine blk_drew ?_ | refine blk_alloc ?_ _)); exact BK845.out⟩, ⟨by (with_reducible repeat (first | refine blk_drewN ?_ _ | refine blk_drew ?_ | refine blk_alloc ?_ _)); refine blk_far ?_ NB855_886.out _; (with_reducible repeat (first | refine blk_drewN ?_ _ | refine blk_drew ?_ | refine blk_alloc ?_ _)); refine blk_far ?_ NB855_886.out _; (with_reducible repeat (first | refine blk_drewN ?_ _ | refine blk_drew ?_ | refine blk_alloc ?_ _)); refine blk_far ?_ NB855_886.out _; (with_reducible repeat (first | refine blk_drewN ?_ _ | refine blk_drew ?_ | refine blk_alloc ?_ _)); refine blk_far ?_ NB855_886.out _; (with_reducible repeat (first | refine blk_drewN ?_ _ | refine blk_drew ?_ | refine blk_alloc ?_ _)); exact BK855.out⟩, ⟨by (with_reducible repeat (first | refine blk_drewN ?_ _ | refine blk_drew ?_ | refine blk_alloc ?_ _)); refine blk_far ?_ NB863_886.out _; (with_reducible repeat (first | refine blk_drewN ?_ _ | refine blk_drew ?_ | refine blk_alloc ?_ _)); refine blk_far ?_ NB863_886.out _; (with_reducible repeat (first | refine blk_drewN ?_ _ | refine blk_drew ?_ | refine blk_alloc ?_ _)); refine blk_far ?_ NB863_886.out _; (with_reducible repeat (first | refine blk_drewN ?_ _ | refine blk_drew ?_ | refine blk_alloc ?_ _)); refine blk_far ?_ NB863_886.out _; (with_reducible repeat (first | refine blk_drewN ?_ _ | refine blk_drew ?_ | refine blk_alloc ?_ _)); exact BK863.out⟩, ⟨by (with_reducible repeat (first | refine blk_drewN ?_ _ | refine blk_drew ?_ | refine blk_alloc ?_ _)); refine blk_far ?_ NB878_886.out _; (with_reducible repeat (first | refine blk_drewN ?_ _ | refine blk_drew ?_ | refine blk_alloc ?_ _)); refine blk_far ?_ NB878_886.out _; (with_reducible repeat (first | refine blk_drewN ?_ _ | refine blk_drew ?_ | refine blk_alloc ?_ _)); refine blk_far ?_ NB878_886.out _; (with_reducible repeat (first | refine blk_drewN ?_ _ | refine blk_drew ?_ | refine blk_alloc ?_ _)); refine blk_far ?_ NB878_886.out _; (with_reducible repeat (first | refine blk_drewN ?_ _ | refine blk_drew ?_ | refine blk_alloc ?_ _)); exact BK878.out⟩, ⟨by (with_reducible repeat (first | refine blk_drewN ?_ _ | refine blk_drew ?_ | refine blk_alloc ?_ _)); refine blk_put (cs := #[.int .u64 t879, .int .i64 t880, .string t881, .slice none 0 0]) ?_ 3 _ rfl; (with_reducible repeat (first | refine blk_drewN ?_ _ | refine blk_drew ?_ | refine blk_alloc ?_ _)); refine blk_put (cs := #[.int .u64 t879, .int .i64 t880, .string (⟨#[]⟩ : ByteArray), .slice none 0 0]) ?_ 2 _ rfl; (with_reducible repeat (first | refine blk_drewN ?_ _ | refine blk_drew ?_ | refine blk_alloc ?_ _)); refine blk_put (cs := #[.int .u64 t879, .int .i64 0, .string (⟨#[]⟩ : ByteArray), .slice none 0 0]) ?_ 1 _ rfl; (with_reducible repeat (first | refine blk_drewN ?_ _ | refine blk_drew ?_ | refine blk_alloc ?_ _)); refine blk_put (cs := #[.int .u64 0, .int .i64 0, .string (⟨#[]⟩ : ByteArray), .slice none 0 0]) ?_ 0 _ rfl; (with_reducible repeat (first | refine blk_drewN ?_ _ | refine blk_drew ?_ | refine blk_alloc ?_ _)); exact BK886.out⟩, ⟨pB⟩⟩
       case rest =>
        clear HC59
        try clear c1
        try clear c2
        try clear p2
        try clear c3
        try clear c4
        try clear c5
        try clear c6
        try clear c7
        try clear c8
        try clear c9
        try clear c12
        try clear c15
        try clear c17
        try clear c18
        try clear c19
        try clear c20
        try clear c21
        try clear c22
        try clear c25
        try clear c26
        try clear c32
        try clear c33
        try clear c34
        try clear c38
        try clear c39
        try clear c40
        try clear c41
        try clear c43
        try clear c44
        try clear c47
        try clear c48
        try clear c49
        try clear c51
        try clear c52
        try clear c55
        try clear c60
        try clear c61
        try clear c62
        try clear c68
        try clear c69
        try clear c70
        try clear c71
        try clear c77
        try clear c78
        try clear c79
        try clear c80
        try clear c81
        try clear c84
        try clear c84b0
        try clear c84b1
        try clear c86
        try clear c87
        try clear c88
        try clear c89
        try clear c90
        try clear c92
        try clear c93
        try clear c94
        try clear c95
        try clear q11 q13 q22 q27 q29 q35 q42 q45 q50 q53 q63 q72 q74 q82 q91 q96 q9
        try clear p2
        obtain ⟨kq, x63_58, rfl, HA, HJ58, HO_856003, HO_864003, HO_879003, HO_887003, BK844, BK845, BK855, BK863, BK878, BK886, HB⟩ := hcut
        cases kq with
        | zero => exact absurd HA.out (by simp [minstrellaw19_SnapEntries.j2])
        | succ kj58 =>
         have H := HA.out
         clear HA
         simp only [minstrellaw19_SnapEntries.j2] at H
         by_cases c98 : x63_58 = true
         ·subst c98
          rw [if_pos rfl] at H
          exact absurd H (by simp)
         ·replace c98 := Bool.eq_false_iff.mpr c98
          subst c98
          rw [if_neg (show ¬ (false = true) by decide)] at H
          by_cases c99 : t854 = 0
          ·rw [if_pos c99] at H
           have c99b0 : (t854 == 0) = true := beq_iff_eq.mpr c99
           have c99b1 : (t854 != 0) = false := bne_eq_false_iff_eq.mpr c99
           clear c99
           replace H := Option.bind_eq_some_iff.mp H
           obtain ⟨⟨t889, t890, t891, t892, t895⟩, A1000, H⟩ := H
           try dsimp only at H
           have A100 := am A1000
           clear A1000
           by_cases c101 : t895 = 0
           ·rw [if_pos c101] at H
            have c101b0 : (t895 == 0) = true := beq_iff_eq.mpr c101
            have c101b1 : (t895 != 0) = false := bne_eq_false_iff_eq.mpr c101
            clear c101
            replace H := Option.bind_eq_some_iff.mp H
            obtain ⟨⟨t897, t898, t899, t900⟩, A1020, H⟩ := H
            try dsimp only at H
            have A102 := am A1020
            clear A1020
            replace H := Option.bind_eq_some_iff.mp H
            obtain ⟨t903, A1030, H⟩ := H
            try dsimp only at H
            have A103 := am A1030
            clear A1030
            by_cases c104 : t903 = true
            ·subst c104
             rw [if_pos rfl] at H
             replace H := Option.bind_eq_some_iff.mp H
             obtain ⟨t904, A1050, H⟩ := H
             try dsimp only at H
             have A105 := am A1050
             clear A1050
             obtain rfl := Option.some.inj H
             have hnb106 := NB855_844.out
             have hnc106 := NB844_855.out
             have hnb107 := NB855_845.out
             have hnc107 := NB845_855.out
             have hnb108 := NB855_863.out
             have hnc108 := NB863_855.out
             have hnb109 := NB855_878.out
             have hnc109 := NB878_855.out
             have hnb110 := NB855_886.out
             have hnc110 := NB886_855.out
             have q111 := cf4 BK855.out
             try go_wp2_with (first | ((with_reducible refine gate_callee (f := 20) rfl ?_); refine goesL_ (some 69) rfl rfl Tryd.func20 (by kernel_rfl) rfl #[.agg #[.int .i64 t848, .int .u64 t849, .string t850, .slice Ao28 t851.length co28]] rfl pM ?_; (with_reducible refine (snap_FromEntry.calls kj58 t848 t849 t850 _ _ t851 t889 t890 t891 t892 t895 _ ?side1 ?side2 A100.out).mono ?_); (case side1 => repeat (first | exact (Kd.N_reads' HO_856003.out).2.2 | (with_reducible refine Kd.C_alloc ?_ _) | (with_reducible refine Kd.C_drewN ?_ _) | (with_reducible refine Kd.C_drew ?_))); (case side2 => exact (Kd.N_reads' HO_856003.out).2.1); rintro e w112 ⟨v893, rfl, ho0, hb⟩; refine ⟨_, rfl, ?_⟩; replace HO_856003 := am (Kd.N_elder' (pN HO_856003.out) (Kd.R_base ho0) hb); replace HO_864003 := am (Kd.V_elder' (pV HO_864003.out) (Kd.R_base ho0) hb); have HO894 := am (Kd.R_lower (Kd.R_new' (Kd.R_new' ho0 (Kd.R_lt (pR HO_879003.out))) (Kd.R_lt (pR HO_887003.out))) (below_size pB)); replace HO_879003 := am (Kd.R_elder' (pR HO_879003.out) (Kd.R_base ho0) hb); replace HO_887003 := am (Kd.R_elder' (pR HO_887003.out) (Kd.R_base ho0) hb); replace BK844 := am (pkb BK844.out hb); replace BK845 := am (pkb BK845.out hb); replace BK855 := am (pkb BK855.out hb); replace BK863 := am (pkb BK863.out hb); replace BK878 := am (pkb BK878.out hb); replace BK886 := am (pkb BK886.out hb); replace HB := am (below_step pB hb); (try clear hb); (try clear hb2); (try clear hk); (try clear hi); (try clear ho0)) | ((with_reducible refine gate_dst (N := 13) rfl ?_); (try (refine gate_guard (by rfl) ?_; dsimp only)); refine box_event ?hg (N := 13) ?hd (cs := #[.int .u64 0, .int .i64 0, .string (⟨#[]⟩ : ByteArray), .slice none 0 0]) (t := 46) ?hr ?_; (case hd => rfl); (case hg => rfl); (case hr => first | (go_simp; done) | (go_simp; rfl)); intro gb896 hg w113 hbox hb; replace HO_856003 := am (Kd.N_below (Kd.N_elderB (pN HO_856003.out) gb896 (Nat.le_of_eq hg.symm)) hb); replace HO_864003 := am (Kd.V_below (Kd.V_elderB (pV HO_864003.out) gb896 (Nat.le_of_eq hg.symm)) hb); replace HO_879003 := am (Kd.R_below (pR HO_879003.out) hb); replace HO_887003 := am (Kd.R_below (pR HO_887003.out) hb); replace HO894 := am (Kd.R_below (pR HO894.out) hb); have BK896 := am (hbox); have GW896 := am ((by rw [hg]; exact (below_size pB) : w.heap.size ≤ gb896)); have GE896 := am ((by rw [hg]; exact (below_size pB) : w.heap.size ≤ gb896)); have NB844_896 := am ((by rw [hg]; exact Nat.ne_of_lt (pkl BK844.out) : gb844 ≠ gb896)); have NB896_844 := am ((by rw [hg]; exact Nat.ne_of_gt (pkl BK844.out) : gb896 ≠ gb844)); replace BK844 := am (pkb BK844.out hb); have NB845_896 := am ((by rw [hg]; exact Nat.ne_of_lt (pkl BK845.out) : gb845 ≠ gb896)); have NB896_845 := am ((by rw [hg]; exact Nat.ne_of_gt (pkl BK845.out) : gb896 ≠ gb845)); replace BK845 := am (pkb BK845.out hb); have NB855_896 := am ((by rw [hg]; exact Nat.ne_of_lt (pkl BK855.out) : gb855 ≠ gb896)); have NB896_855 := am ((by rw [hg]; exact Nat.ne_of_gt (pkl BK855.out) : gb896 ≠ gb855)); replace BK855 := am (pkb BK855.out hb); have NB863_896 := am ((by rw [hg]; exact Nat.ne_of_lt (pkl BK863.out) : gb863 ≠ gb896)); have NB896_863 := am ((by rw [hg]; exact Nat.ne_of_gt (pkl BK863.out) : gb896 ≠ gb863)); replace BK863 := am (pkb BK863.out hb); have NB878_896 := am ((by rw [hg]; exact Nat.ne_of_lt (pkl BK878.out) : gb878 ≠ gb896)); have NB896_878 := am ((by rw [hg]; exact Nat.ne_of_gt (pkl BK878.out) : gb896 ≠ gb878)); replace BK878 := am (pkb BK878.out hb); have NB886_896 := am ((by rw [hg]; exact Nat.ne_of_lt (pkl BK886.out) : gb886 ≠ gb896)); have NB896_886 := am ((by rw [hg]; exact Nat.ne_of_gt (pkl BK886.out) : gb896 ≠ gb886)); replace BK886 := am (pkb BK886.out hb); replace HB := am (below_step pB hb); clear hb hbox hg; have hnb114 := NB896_844.out; have hnc114 := NB844_896.out; have hnb115 := NB896_845.out; have hnc115 := NB845_896.out; have hnb116 := NB896_855.out; have hnc116 := NB855_896.out; have hnb117 := NB896_863.out; have hnc117 := NB863_896.out; have hnb118 := NB896_878.out; have hnc118 := NB878_896.out; have hnb119 := NB896_886.out; have hnc119 := NB886_896.out; have q120 := cf4 BK896.out; obtain ⟨Ao121, co121, eo121⟩ := Kd.R_slice HO894.out; subst eo121))
             have n0_ : Aside0 (Kd.N k26 26 ((((w113.setCell ⟨gb896, 0, none⟩ (.int .u64 t889)).setCell ⟨gb896, 1, none⟩ (.int .i64 t890)).setCell ⟨gb896, 2, none⟩ (.string t891)).setCell ⟨gb896, 3, none⟩ (.slice Ao121 t892.length co121)) w.heap.size (fun k_ => some k_ ≠ (.slice Ao73 t874.length co73 : Value).ownBlock ∧ some k_ ≠ (.slice Ao83 t882.length co83 : Value).ownBlock ∧ some k_ ≠ (.slice Ao121 t892.length co121 : Value).ownBlock ∧ k_ ≠ gb844 ∧ k_ ≠ gb845 ∧ k_ ≠ gb855 ∧ k_ ≠ gb863 ∧ k_ ≠ gb878 ∧ k_ ≠ gb886 ∧ k_ ≠ gb896) (.slice Ao28 t851.length co28) t851) := ⟨by (with_reducible repeat (first | apply Kd.N_alloc | apply Kd.N_drewN | apply Kd.N_drew)); exact Kd.N_mono (Kd.N_far (p := ⟨gb896, 3, none⟩) (Kd.N_far (p := ⟨gb896, 2, none⟩) (Kd.N_far (p := ⟨gb896, 1, none⟩) (Kd.N_far (p := ⟨gb896, 0, none⟩) (Kd.N_mono HO_856003.out (fun k_ hk => (⟨hk, hk.2⟩ : _ ∧ k_ ≠ gb896))) (fun _ hk => hk.2) (.int .u64 t889)) (fun _ hk => hk.2) (.int .i64 t890)) (fun _ hk => hk.2) (.string t891)) (fun _ hk => hk.2) (.slice Ao121 t892.length co121)) (fun _ hk => ⟨hk.1.1.1.1, ⟨hk.1.1.1.2.1, ⟨hk.1.1.2, ⟨hk.1.1.1.2.2.1, ⟨hk.1.1.1.2.2.2.1, ⟨hk.1.1.1.2.2.2.2.1, ⟨hk.1.1.1.2.2.2.2.2.1, ⟨hk.1.1.1.2.2.2.2.2.2.1, ⟨hk.1.1.1.2.2.2.2.2.2.2, hk.1.2⟩⟩⟩⟩⟩⟩⟩⟩⟩)⟩
             have n1_ : Aside0 (Kd.V k26 26 ((((w113.setCell ⟨gb896, 0, none⟩ (.int .u64 t889)).setCell ⟨gb896, 1, none⟩ (.int .i64 t890)).setCell ⟨gb896, 2, none⟩ (.string t891)).setCell ⟨gb896, 3, none⟩ (.slice Ao121 t892.length co121)) w.heap.size (fun k_ => some k_ ≠ (.slice Ao28 t851.length co28 : Value).ownBlock ∧ some k_ ≠ (.slice Ao73 t874.length co73 : Value).ownBlock ∧ some k_ ≠ (.slice Ao83 t882.length co83 : Value).ownBlock ∧ some k_ ≠ (.slice Ao121 t892.length co121 : Value).ownBlock ∧ k_ ≠ gb844 ∧ k_ ≠ gb845 ∧ k_ ≠ gb855 ∧ k_ ≠ gb863 ∧ k_ ≠ gb878 ∧ k_ ≠ gb886 ∧ k_ ≠ gb896) (.slice Ao36 t859.length co36) t859) := ⟨by (with_reducible repeat (first | apply Kd.V_alloc | apply Kd.V_drewN | apply Kd.V_drew)); exact Kd.V_mono (Kd.V_far (p := ⟨gb896, 3, none⟩) (Kd.V_far (p := ⟨gb896, 2, none⟩) (Kd.V_far (p := ⟨gb896, 1, none⟩) (Kd.V_far (p := ⟨gb896, 0, none⟩) (Kd.V_mono HO_864003.out (fun k_ hk => (⟨hk, hk.2⟩ : _ ∧ k_ ≠ gb896))) (fun _ hk => hk.2) (.int .u64 t889)) (fun _ hk => hk.2) (.int .i64 t890)) (fun _ hk => hk.2) (.string t891)) (fun _ hk => hk.2) (.slice Ao121 t892.length co121)) (fun _ hk => ⟨hk.1.1.1.1, ⟨hk.1.1.1.2.1, ⟨hk.1.1.1.2.2.1, ⟨hk.1.1.2, ⟨hk.1.1.1.2.2.2.1, ⟨hk.1.1.1.2.2.2.2.1, ⟨hk.1.1.1.2.2.2.2.2.1, ⟨hk.1.1.1.2.2.2.2.2.2.1, ⟨hk.1.1.1.2.2.2.2.2.2.2.1, ⟨hk.1.1.1.2.2.2.2.2.2.2.2, hk.1.2⟩⟩⟩⟩⟩⟩⟩⟩⟩⟩)⟩
             have n2_ : Aside0 (Kd.R (Kd.int .i64) 3 ((((w113.setCell ⟨gb896, 0, none⟩ (.int .u64 t889)).setCell ⟨gb896, 1, none⟩ (.int .i64 t890)).setCell ⟨gb896, 2, none⟩ (.string t891)).setCell ⟨gb896, 3, none⟩ (.slice Ao121 t892.length co121)) w.heap.size (fun k_ => some k_ ≠ (.slice Ao83 t882.length co83 : Value).ownBlock ∧ some k_ ≠ (.slice Ao121 t892.length co121 : Value).ownBlock) (.slice Ao73 t874.length co73) t874) := ⟨by (with_reducible repeat (first | apply Kd.R_alloc | apply Kd.R_drewN | apply Kd.R_drew)); exact Kd.R_mono (Kd.R_far (p := ⟨gb896, 3, none⟩) (Kd.R_far (p := ⟨gb896, 2, none⟩) (Kd.R_far (p := ⟨gb896, 1, none⟩) (Kd.R_far (p := ⟨gb896, 0, none⟩) (Kd.R_types HO_879003.out BK896.out (by decide)) (fun _ hk => hk.2) (.int .u64 t889)) (fun _ hk => hk.2) (.int .i64 t890)) (fun _ hk => hk.2) (.string t891)) (fun _ hk => hk.2) (.slice Ao121 t892.length co121)) (fun _ hk => ⟨hk.1.1, hk.1.2⟩)⟩
             have n3_ : Aside0 (Kd.R (Kd.int .i64) 3 ((((w113.setCell ⟨gb896, 0, none⟩ (.int .u64 t889)).setCell ⟨gb896, 1, none⟩ (.int .i64 t890)).setCell ⟨gb896, 2, none⟩ (.string t891)).setCell ⟨gb896, 3, none⟩ (.slice Ao121 t892.length co121)) w.heap.size (fun k_ => some k_ ≠ (.slice Ao73 t874.length co73 : Value).ownBlock ∧ some k_ ≠ (.slice Ao121 t892.length co121 : Value).ownBlock) (.slice Ao83 t882.length co83) t882) := ⟨by (with_reducible repeat (first | apply Kd.R_alloc | apply Kd.R_drewN | apply Kd.R_drew)); exact Kd.R_mono (Kd.R_far (p := ⟨gb896, 3, none⟩) (Kd.R_far (p := ⟨gb896, 2, none⟩) (Kd.R_far (p := ⟨gb896, 1, none⟩) (Kd.R_far (p := ⟨gb896, 0, none⟩) (Kd.R_types HO_887003.out BK896.out (by decide)) (fun _ hk => hk.2) (.int .u64 t889)) (fun _ hk => hk.2) (.int .i64 t890)) (fun _ hk => hk.2) (.string t891)) (fun _ hk => hk.2) (.slice Ao121 t892.length co121)) (fun _ hk => ⟨hk.1.1, hk.1.2⟩)⟩
             have n4_ : Aside0 (Kd.R (Kd.int .i64) 3 ((((w113.setCell ⟨gb896, 0, none⟩ (.int .u64 t889)).setCell ⟨gb896, 1, none⟩ (.int .i64 t890)).setCell ⟨gb896, 2, none⟩ (.string t891)).setCell ⟨gb896, 3, none⟩ (.slice Ao121 t892.length co121)) w.heap.size (fun k_ => some k_ ≠ (.slice Ao73 t874.length co73 : Value).ownBlock ∧ some k_ ≠ (.slice Ao83 t882.length co83 : Value).ownBlock) (.slice Ao121 t892.length co121) t892) := ⟨by (with_reducible repeat (first | apply Kd.R_alloc | apply Kd.R_drewN | apply Kd.R_drew)); exact Kd.R_mono (Kd.R_far (p := ⟨gb896, 3, none⟩) (Kd.R_far (p := ⟨gb896, 2, none⟩) (Kd.R_far (p := ⟨gb896, 1, none⟩) (Kd.R_far (p := ⟨gb896, 0, none⟩) (Kd.R_types HO894.out BK896.out (by decide)) (fun _ hk => hk.2) (.int .u64 t889)) (fun _ hk => hk.2) (.int .i64 t890)) (fun _ hk => hk.2) (.string t891)) (fun _ hk => hk.2) (.slice Ao121 t892.length co121)) (fun _ hk => ⟨hk.1.1.2, hk.1.2⟩)⟩
             have n5_ : Aside0 (((((w113.setCell ⟨gb896, 0, none⟩ (.int .u64 t889)).setCell ⟨gb896, 1, none⟩ (.int .i64 t890)).setCell ⟨gb896, 2, none⟩ (.string t891)).setCell ⟨gb896, 3, none⟩ (.slice Ao121 t892.length co121)).heap[gb844]? = some (.cells #[.int .u64 a0_0, .int .i64 a0_1, .string a0_2, .slice A0_3 l0_3.length c0_3] 46 (0, 0))) := ⟨by (with_reducible repeat (first | refine blk_drewN ?_ _ | refine blk_drew ?_ | refine blk_alloc ?_ _)); refine blk_far ?_ NB844_896.out _; (with_reducible repeat (first | refine blk_drewN ?_ _ | refine blk_drew ?_ | refine blk_alloc ?_ _)); refine blk_far ?_ NB844_896.out _; (with_reducible repeat (first | refine blk_drewN ?_ _ | refine blk_drew ?_ | refine blk_alloc ?_ _)); refine blk_far ?_ NB844_896.out _; (with_reducible repeat (first | refine blk_drewN ?_ _ | refine blk_drew ?_ | refine blk_alloc ?_ _)); refine blk_far ?_ NB844_896.out _; (with_reducible repeat (first | refine blk_drewN ?_ _ | refine blk_drew ?_ | refine blk_alloc ?_ _)); exact BK844.out⟩
             have n6_ : Aside0 (((((w113.setCell ⟨gb896, 0, none⟩ (.int .u64 t889)).setCell ⟨gb896, 1, none⟩ (.int .i64 t890)).setCell ⟨gb896, 2, none⟩ (.string t891)).setCell ⟨gb896, 3, none⟩ (.slice Ao121 t892.length co121)).heap[gb845]? = some (.cells #[.int .i64 a1_0, .int .u64 a1_1, .string a1_2, .slice A1_3 l1_3.length c1_3] 26 (0, 0))) := ⟨by (with_reducible repeat (first | refine blk_drewN ?_ _ | refine blk_drew ?_ | refine blk_alloc ?_ _)); refine blk_far ?_ NB845_896.out _; (with_reducible repeat (first | refine blk_drewN ?_ _ | refine blk_drew ?_ | refine blk_alloc ?_ _)); refine blk_far ?_ NB845_896.out _; (with_reducible repeat (first | refine blk_drewN ?_ _ | refine blk_drew ?_ | refine blk_alloc ?_ _)); refine blk_far ?_ NB845_896.out _; (with_reducible repeat (first | refine blk_drewN ?_ _ | refine blk_drew ?_ | refine blk_alloc ?_ _)); refine blk_far ?_ NB845_896.out _; (with_reducible repeat (first | refine blk_drewN ?_ _ | refine blk_drew ?_ | refine blk_alloc ?_ _)); exact BK845.out⟩
             have n7_ : Aside0 (((((w113.setCell ⟨gb896, 0, none⟩ (.int .u64 t889)).setCell ⟨gb896, 1, none⟩ (.int .i64 t890)).setCell ⟨gb896, 2, none⟩ (.string t891)).setCell ⟨gb896, 3, none⟩ (.slice Ao121 t892.length co121)).heap[gb855]? = some (.cells #[.int .i64 t848, .int .u64 t849, .string t850, .slice Ao28 t851.length co28] 26 (0, 0))) := ⟨by (with_reducible repeat (first | refine blk_drewN ?_ _ | refine blk_drew ?_ | refine blk_alloc ?_ _)); refine blk_far ?_ NB855_896.out _; (with_reducible repeat (first | refine blk_drewN ?_ _ | refine blk_drew ?_ | refine blk_alloc ?_ _)); refine blk_far ?_ NB855_896.out _; (with_reducible repeat (first | refine blk_drewN ?_ _ | refine blk_drew ?_ | refine blk_alloc ?_ _)); refine blk_far ?_ NB855_896.out _; (with_reducible repeat (first | refine blk_drewN ?_ _ | refine blk_drew ?_ | refine blk_alloc ?_ _)); refine blk_far ?_ NB855_896.out _; (with_reducible repeat (first | refine blk_drewN ?_ _ | refine blk_drew ?_ | refine blk_alloc ?_ _)); exact BK855.out⟩
             have n8_ : Aside0 (((((w113.setCell ⟨gb896, 0, none⟩ (.int .u64 t889)).setCell ⟨gb896, 1, none⟩ (.int .i64 t890)).setCell ⟨gb896, 2, none⟩ (.string t891)).setCell ⟨gb896, 3, none⟩ (.slice Ao121 t892.length co121)).heap[gb863]? = some (.cells #[.int .i64 t856, .int .u64 t857, .string t858, .slice Ao36 t859.length co36] 26 (0, 0))) := ⟨by (with_reducible repeat (first | refine blk_drewN ?_ _ | refine blk_drew ?_ | refine blk_alloc ?_ _)); refine blk_far ?_ NB863_896.out _; (with_reducible repeat (first | refine blk_drewN ?_ _ | refine blk_drew ?_ | refine blk_alloc ?_ _)); refine blk_far ?_ NB863_896.out _; (with_reducible repeat (first | refine blk_drewN ?_ _ | refine blk_drew ?_ | refine blk_alloc ?_ _)); refine blk_far ?_ NB863_896.out _; (with_reducible repeat (first | refine blk_drewN ?_ _ | refine blk_drew ?_ | refine blk_alloc ?_ _)); refine blk_far ?_ NB863_896.out _; (with_reducible repeat (first | refine blk_drewN ?_ _ | refine blk_drew ?_ | refine blk_alloc ?_ _)); exact BK863.out⟩
             have n9_ : Aside0 (((((w113.setCell ⟨gb896, 0, none⟩ (.int .u64 t889)).setCell ⟨gb896, 1, none⟩ (.int .i64 t890)).setCell ⟨gb896, 2, none⟩ (.string t891)).setCell ⟨gb896, 3, none⟩ (.slice Ao121 t892.length co121)).heap[gb878]? = some (.cells #[.int .u64 t871, .int .i64 t872, .string t873, .slice Ao73 t874.length co73] 46 (0, 0))) := ⟨by (with_reducible repeat (first | refine blk_drewN ?_ _ | refine blk_drew ?_ | refine blk_alloc ?_ _)); refine blk_far ?_ NB878_896.out _; (with_reducible repeat (first | refine blk_drewN ?_ _ | refine blk_drew ?_ | refine blk_alloc ?_ _)); refine blk_far ?_ NB878_896.out _; (with_reducible repeat (first | refine blk_drewN ?_ _ | refine blk_drew ?_ | refine blk_alloc ?_ _)); refine blk_far ?_ NB878_896.out _; (with_reducible repeat (first | refine blk_drewN ?_ _ | refine blk_drew ?_ | refine blk_alloc ?_ _)); refine blk_far ?_ NB878_896.out _; (with_reducible repeat (first | refine blk_drewN ?_ _ | refine blk_drew ?_ | refine blk_alloc ?_ _)); exact BK878.out⟩
             have n10_ : Aside0 (((((w113.setCell ⟨gb896, 0, none⟩ (.int .u64 t889)).setCell ⟨gb896, 1, none⟩ (.int .i64 t890)).setCell ⟨gb896, 2, none⟩ (.string t891)).setCell ⟨gb896, 3, none⟩ (.slice Ao121 t892.length co121)).heap[gb886]? = some (.cells #[.int .u64 t879, .int .i64 t880, .string t881, .slice Ao83 t882.length co83] 46 (0, 0))) := ⟨by (with_reducible repeat (first | refine blk_drewN ?_ _ | refine blk_drew ?_ | refine blk_alloc ?_ _)); refine blk_far ?_ NB886_896.out _; (with_reducible repeat (first | refine blk_drewN ?_ _ | refine blk_drew ?_ | refine blk_alloc ?_ _)); refine blk_far ?_ NB886_896.out _; (with_reducible repeat (first | refine blk_drewN ?_ _ | refine blk_drew ?_ | refine blk_alloc ?_ _)); refine blk_far ?_ NB886_896.out _; (with_reducible repeat (first | refine blk_drewN ?_ _ | refine blk_drew ?_ | refine blk_alloc ?_ _)); refine blk_far ?_ NB886_896.out _; (with_reducible repeat (first | refine blk_drewN ?_ _ | refine blk_drew ?_ | refine blk_alloc ?_ _)); exact BK886.out⟩
             have n11_ : Aside0 (((((w113.setCell ⟨gb896, 0, none⟩ (.int .u64 t889)).setCell ⟨gb896, 1, none⟩ (.int .i64 t890)).setCell ⟨gb896, 2, none⟩ (.string t891)).setCell ⟨gb896, 3, none⟩ (.slice Ao121 t892.length co121)).heap[gb896]? = some (.cells #[.int .u64 t889, .int .i64 t890, .string t891, .slice Ao121 t892.length co121] 46 (0, 0))) := ⟨by (with_reducible repeat (first | refine blk_drewN ?_ _ | refine blk_drew ?_ | refine blk_alloc ?_ _)); refine blk_put (cs := #[.int .u64 t889, .int .i64 t890, .string t891, .slice none 0 0]) ?_ 3 _ rfl; (with_reducible repeat (first | refine blk_drewN ?_ _ | refine blk_drew ?_ | refine blk_alloc ?_ _)); refine blk_put (cs := #[.int .u64 t889, .int .i64 t890, .string (⟨#[]⟩ : ByteArray), .slice none 0 0]) ?_ 2 _ rfl; (with_reducible repeat (first | refine blk_drewN ?_ _ | refine blk_drew ?_ | refine blk_alloc ?_ _)); refine blk_put (cs := #[.int .u64 t889, .int .i64 0, .string (⟨#[]⟩ : ByteArray), .slice none 0 0]) ?_ 1 _ rfl; (with_reducible repeat (first | refine blk_drewN ?_ _ | refine blk_drew ?_ | refine blk_alloc ?_ _)); refine blk_put (cs := #[.int .u64 0, .int .i64 0, .string (⟨#[]⟩ : ByteArray), .slice none 0 0]) ?_ 0 _ rfl; (with_reducible repeat (first | refine blk_drewN ?_ _ | refine blk_drew ?_ | refine blk_alloc ?_ _)); exact BK896.out⟩
             have n12_ : Aside0 (Below w.heap.size w ((((w113.setCell ⟨gb896, 0, none⟩ (.int .u64 t889)).setCell ⟨gb896, 1, none⟩ (.int .i64 t890)).setCell ⟨gb896, 2, none⟩ (.string t891)).setCell ⟨gb896, 3, none⟩ (.slice Ao121 t892.length co121))) := ⟨pB⟩
             (try clear HO_856003); (try clear HO_864003); (try clear HO_879003); (try clear HO_887003); (try clear HO894); (try clear BK844); (try clear BK845); (try clear BK855); (try clear BK863); (try clear BK878); (try clear BK886); (try clear BK896); (try clear HB)
             generalize ((((w113.setCell ⟨gb896, 0, none⟩ (.int .u64 t889)).setCell ⟨gb896, 1, none⟩ (.int .i64 t890)).setCell ⟨gb896, 2, none⟩ (.string t891)).setCell ⟨gb896, 3, none⟩ (.slice Ao121 t892.length co121)) = w122 at n0_ n1_ n2_ n3_ n4_ n5_ n6_ n7_ n8_ n9_ n10_ n11_ n12_ ⊢
             have HO_856003 := n0_; have HO_864003 := n1_; have HO_879003 := n2_; have HO_887003 := n3_; have HO894 := n4_; have BK844 := n5_; have BK845 := n6_; have BK855 := n7_; have BK863 := n8_; have BK878 := n9_; have BK886 := n10_; have BK896 := n11_; have HB := n12_; clear n0_ n1_ n2_ n3_ n4_ n5_ n6_ n7_ n8_ n9_ n10_ n11_ n12_
             replace HO_856003 := am (Kd.N_drew HO_856003.out)
             replace HO_864003 := am (Kd.V_drew HO_864003.out)
             replace HO_879003 := am (Kd.R_drew HO_879003.out)
             replace HO_887003 := am (Kd.R_drew HO_887003.out)
             replace HO894 := am (Kd.R_drew HO894.out)
             replace BK844 := am (blk_drew BK844.out)
             replace BK845 := am (blk_drew BK845.out)
             replace BK855 := am (blk_drew BK855.out)
             replace BK863 := am (blk_drew BK863.out)
             replace BK878 := am (blk_drew BK878.out)
             replace BK886 := am (blk_drew BK886.out)
             replace BK896 := am (blk_drew BK896.out)
             replace HB := am (below_drew1 HB.out)
             refine start_ (n := 12) (S := fun w' => w'.cell? ⟨gb896, 0, none⟩ = some (.int .u64 t889) ∧ w'.cell? ⟨gb896, 1, none⟩ = some (.int .i64 t890) ∧ w'.cell? ⟨gb896, 2, none⟩ = some (.string t891) ∧ w'.cell? ⟨gb896, 3, none⟩ = some (.slice Ao121 t892.length co121) ∧ w'.cell? ⟨gb844, 0, none⟩ = some (.int .u64 a0_0) ∧ w'.cell? ⟨gb844, 1, none⟩ = some (.int .i64 a0_1) ∧ w'.cell? ⟨gb844, 2, none⟩ = some (.string a0_2) ∧ w'.cell? ⟨gb844, 3, none⟩ = some (.slice A0_3 l0_3.length c0_3)) (ds := []) (bm 12 0) (by kernel_rfl) rfl rfl ⟨cz0 BK896.out, cz1 BK896.out, cz2 BK896.out, cz3 BK896.out, cz0 BK844.out, cz1 BK844.out, cz2 BK844.out, cz3 BK844.out⟩ (fun hHeld => ?_); refine with_tabW minstrellaw19_SnapEntries.tab14 minstrellaw19_SnapEntries.bits14 (fun HT_ HW_ => ?_)
             generalize w122.drew = w123 at HO_856003 HO_864003 HO_879003 HO_887003 HO894 BK844 BK845 BK855 BK863 BK878 BK886 BK896 HB hHeld ⊢
             refine pure_ (i := 0) (N := some 72) (v := ?_) (a' := ?_) (bm 12 1) rfl rfl (any_of HT_.out (by kernel_rfl)) (fun _ _ _ h => h) (Or.inl ⟨by kernel_rfl, ?_⟩) ?_ ?_
             rotate_left
             ·intro w'
              go_simp
              with_reducible rfl
             rotate_left
             ·exact pA
             refine pure_ (i := 1) (N := some 73) (v := ?_) (a' := ?_) (bm 12 3) rfl rfl (any_of HT_.out (by kernel_rfl)) (fun _ _ _ h => h) (Or.inl ⟨by kernel_rfl, ?_⟩) ?_ ?_
             rotate_left
             ·intro w'
              go_simp
              with_reducible rfl
             rotate_left
             ·exact pA
             refine pure_ (i := 2) (N := some 74) (v := ?_) (a' := ?_) (bm 12 7) rfl rfl (any_of HT_.out (by kernel_rfl)) (fun _ _ _ h => h) (Or.inl ⟨by kernel_rfl, ?_⟩) ?_ ?_
             rotate_left
             ·intro w'
              go_simp
              with_reducible rfl
             rotate_left
             ·exact pA
             refine take_ (i := 3) (N := some 75) (v := ?_) (a' := ?_) (bm 12 15) rfl rfl (take_ofW HT_.out HW_.out (by kernel_rfl)) (fun _ _ _ h => h) (Or.inl ⟨by kernel_rfl, ?_⟩) hHeld ?_ ?_
             rotate_left
             ·rintro w' ⟨s0, s1, s2, s3, s4, s5, s6, s7⟩
              go_simp
              with_reducible rfl
             rotate_left
             ·exact pA
             refine take_ (i := 4) (N := some 76) (v := ?_) (a' := ?_) (bm 12 31) rfl rfl (take_ofW HT_.out HW_.out (by kernel_rfl)) (fun _ _ _ h => h) (Or.inl ⟨by kernel_rfl, ?_⟩) hHeld ?_ ?_
             rotate_left
             ·rintro w' ⟨s0, s1, s2, s3, s4, s5, s6, s7⟩
              go_simp
              with_reducible rfl
             rotate_left
             ·exact pA
             refine one_ (i := 5) (N := some 77) (bm 12 63) rfl rfl (one_of HT_.out (by kernel_rfl)) (by decide) (fun K hK => ?_)
             refine goes_ Tryd.func24 (by kernel_rfl) rfl #[.agg #[.int .u64 a0_0, .int .i64 a0_1, .string a0_2, .slice A0_3 l0_3.length c0_3]] (by rfl) rfl rfl pM ?_
             with_reducible refine (minstrelref19_Plain.calls a0_0 a0_1 a0_2 _ _ l0_3 t897 t898 t899 t900 _ ?side1 ?side2 A102.out).mono ?_
             (case side1 => exact pC (Kd.C_below HR0_3.out HB.out))
             (case side2 => exact HC0_3.out)
             rintro e w124 ⟨v901, rfl, ho0, hb⟩
             refine ⟨_, rfl, ?_⟩
             have n0_ := am (Kd.N_elder' (pN HO_856003.out) (Kd.R_base ho0) hb)
             have n1_ := am (Kd.V_elder' (pV HO_864003.out) (Kd.R_base ho0) hb)
             have n2_ := am (Kd.R_elder' (pR HO_879003.out) (Kd.R_base ho0) hb)
             have n3_ := am (Kd.R_elder' (pR HO_887003.out) (Kd.R_base ho0) hb)
             have n4_ := am (Kd.R_elder' (pR HO894.out) (Kd.R_base ho0) hb)
             have n5_ := am (Kd.R_lower (Kd.R_new' (Kd.R_new' (Kd.R_new' ho0 (Kd.R_lt (pR HO_879003.out))) (Kd.R_lt (pR HO_887003.out))) (Kd.R_lt (pR HO894.out))) (below_size pB))
             have n6_ := am (pkb BK844.out hb)
             have n7_ := am (pkb BK845.out hb)
             have n8_ := am (pkb BK855.out hb)
             have n9_ := am (pkb BK863.out hb)
             have n10_ := am (pkb BK878.out hb)
             have n11_ := am (pkb BK886.out hb)
             have n12_ := am (pkb BK896.out hb)
             have n13_ := am (below_step pB hb)
             clear HO_856003 HO_864003 HO_879003 HO_887003 HO894 BK844 BK845 BK855 BK863 BK878 BK886 BK896 HB; have HO_856003 := n0_; have HO_864003 := n1_; have HO_879003 := n2_; have HO_887003 := n3_; have HO894 := n4_; have HO902 := n5_; have BK844 := n6_; have BK845 := n7_; have BK855 := n8_; have BK863 := n9_; have BK878 := n10_; have BK886 := n11_; have BK896 := n12_; have HB := n13_; clear n0_ n1_ n2_ n3_ n4_ n5_ n6_ n7_ n8_ n9_ n10_ n11_ n12_ n13_; (try clear hb); (try clear hb2); (try clear hk); (try clear hi); (try clear ho0)
             obtain ⟨Ao125, co125, eo125⟩ := Kd.R_slice HO902.out
             (first | subst eo125 | (injection eo125 with f1_ f2_ f3_; have f4_ := f1_.symm; have f5_ := f3_.symm; clear f1_ f2_ f3_; subst f4_; subst f5_))
             refine hK.out _ _ ⟨cz0 BK896.out, cz1 BK896.out, cz2 BK896.out, cz3 BK896.out, cz0 BK844.out, cz1 BK844.out, cz2 BK844.out, cz3 BK844.out⟩ (fun hHeld => ?_)
             clear hK K
             refine norm_ (a' := ?_) ?_ ?_
             rotate_left
             ·show Act.put _ (some 77) _ = _
              exact pA
             refine one_ (i := 6) (N := some 78) (bm 12 127) rfl rfl (one_of HT_.out (by kernel_rfl)) (by decide) (fun K hK => ?_)
             refine goes_ Tryd.func23 (by kernel_rfl) rfl #[.agg #[.int .u64 t889, .int .i64 t890, .string t891, .slice Ao121 t892.length co121], .agg #[.int .u64 t897, .int .i64 t898, .string t899, .slice Ao125 t900.length co125]] (by rfl) rfl rfl pM ?_
             with_reducible refine (minstrelref19_Same.calls kj58 t889 t890 t891 _ _ t892 t897 t898 t899 _ _ t900 true _ ?side1 ?side2 ?side3 ?side4 A103.out).mono ?_
             (case side1 => repeat (first | exact (Kd.R_reads' HO894.out).2.2 | (with_reducible refine Kd.C_alloc ?_ _) | (with_reducible refine Kd.C_drewN ?_ _) | (with_reducible refine Kd.C_drew ?_)))
             (case side2 => exact (Kd.R_reads' HO894.out).2.1)
             (case side3 => repeat (first | exact (Kd.R_reads' HO902.out).2.2 | (with_reducible refine Kd.C_alloc ?_ _) | (with_reducible refine Kd.C_drewN ?_ _) | (with_reducible refine Kd.C_drew ?_)))
             (case side4 => exact (Kd.R_reads' HO902.out).2.1)
             rintro e w126 ⟨rfl, hb⟩
             refine ⟨_, rfl, ?_⟩
             have n0_ := am (Kd.N_below (pN HO_856003.out) hb)
             have n1_ := am (Kd.V_below (pV HO_864003.out) hb)
             have n2_ := am (Kd.R_below (pR HO_879003.out) hb)
             have n3_ := am (Kd.R_below (pR HO_887003.out) hb)
             have n4_ := am (Kd.R_below (pR HO894.out) hb)
             have n5_ := am (Kd.R_below (pR HO902.out) hb)
             have n6_ := am (pkb BK844.out hb)
             have n7_ := am (pkb BK845.out hb)
             have n8_ := am (pkb BK855.out hb)
             have n9_ := am (pkb BK863.out hb)
             have n10_ := am (pkb BK878.out hb)
             have n11_ := am (pkb BK886.out hb)
             have n12_ := am (pkb BK896.out hb)
             have n13_ := am (below_step pB hb)
             clear HO_856003 HO_864003 HO_879003 HO_887003 HO894 HO902 BK844 BK845 BK855 BK863 BK878 BK886 BK896 HB; have HO_856003 := n0_; have HO_864003 := n1_; have HO_879003 := n2_; have HO_887003 := n3_; have HO894 := n4_; have HO902 := n5_; have BK844 := n6_; have BK845 := n7_; have BK855 := n8_; have BK863 := n9_; have BK878 := n10_; have BK886 := n11_; have BK896 := n12_; have HB := n13_; clear n0_ n1_ n2_ n3_ n4_ n5_ n6_ n7_ n8_ n9_ n10_ n11_ n12_ n13_; (try clear hb); (try clear hb2); (try clear hk); (try clear hi)
             refine hK.out _ _ ⟨cz0 BK896.out, cz1 BK896.out, cz2 BK896.out, cz3 BK896.out, cz0 BK844.out, cz1 BK844.out, cz2 BK844.out, cz3 BK844.out⟩ (fun hHeld => ?_)
             clear hK K
             refine norm_ (a' := ?_) ?_ ?_
             rotate_left
             ·show Act.put _ (some 78) _ = _
              exact pA
             refine pure_ (i := 7) (N := some 79) (v := ?_) (a' := ?_) (bm 12 255) rfl rfl (any_of HT_.out (by kernel_rfl)) (fun _ _ _ h => h) (Or.inl ⟨by kernel_rfl, ?_⟩) ?_ ?_
             rotate_left
             ·intro w'
              go_simp
              with_reducible rfl
             rotate_left
             ·exact pA
             refine pure_ (i := 8) (N := some 80) (v := ?_) (a' := ?_) (bm 12 511) rfl rfl (any_of HT_.out (by kernel_rfl)) (fun _ _ _ h => h) (Or.inl ⟨by kernel_rfl, ?_⟩) ?_ ?_
             rotate_left
             ·intro w'
              go_simp
              with_reducible rfl
             rotate_left
             ·exact pA
             refine one_ (i := 9) (N := some 81) (bm 12 1023) rfl rfl (one_of HT_.out (by kernel_rfl)) (by decide) (fun K hK => ?_)
             refine goes_ Tryd.func8 (by kernel_rfl) rfl #[] (by rfl) rfl rfl pM ?_
             with_reducible refine (minstrellaw19_lives.calls kj58  t904 _ ?side1 A105.out).mono ?_
             (case side1 => exact pG)
             rintro e w127 ⟨rfl, hb⟩
             refine ⟨_, rfl, ?_⟩
             have n0_ := am (Kd.N_below (pN HO_856003.out) hb)
             have n1_ := am (Kd.V_below (pV HO_864003.out) hb)
             have n2_ := am (Kd.R_below (pR HO_879003.out) hb)
             have n3_ := am (Kd.R_below (pR HO_887003.out) hb)
             have n4_ := am (Kd.R_below (pR HO894.out) hb)
             have n5_ := am (Kd.R_below (pR HO902.out) hb)
             have n6_ := am (pkb BK844.out hb)
             have n7_ := am (pkb BK845.out hb)
             have n8_ := am (pkb BK855.out hb)
             have n9_ := am (pkb BK863.out hb)
             have n10_ := am (pkb BK878.out hb)
             have n11_ := am (pkb BK886.out hb)
             have n12_ := am (pkb BK896.out hb)
             have n13_ := am (below_step pB hb)
             clear HO_856003 HO_864003 HO_879003 HO_887003 HO894 HO902 BK844 BK845 BK855 BK863 BK878 BK886 BK896 HB; have HO_856003 := n0_; have HO_864003 := n1_; have HO_879003 := n2_; have HO_887003 := n3_; have HO894 := n4_; have HO902 := n5_; have BK844 := n6_; have BK845 := n7_; have BK855 := n8_; have BK863 := n9_; have BK878 := n10_; have BK886 := n11_; have BK896 := n12_; have HB := n13_; clear n0_ n1_ n2_ n3_ n4_ n5_ n6_ n7_ n8_ n9_ n10_ n11_ n12_ n13_; (try clear hb); (try clear hb2); (try clear hk); (try clear hi)
             refine hK.out _ _ ⟨cz0 BK896.out, cz1 BK896.out, cz2 BK896.out, cz3 BK896.out, cz0 BK844.out, cz1 BK844.out, cz2 BK844.out, cz3 BK844.out⟩ (fun hHeld => ?_)
             clear hK K
             refine norm_ (a' := ?_) ?_ ?_
             rotate_left
             ·show Act.put _ (some 81) _ = _
              exact pA
             refine pure_ (i := 10) (N := some 82) (v := ?_) (a' := ?_) (bm 12 2047) rfl rfl (any_of HT_.out (by kernel_rfl)) (fun _ _ _ h => h) (Or.inl ⟨by kernel_rfl, ?_⟩) ?_ ?_
             rotate_left
             ·intro w'
              go_simp
              with_reducible rfl
             rotate_left
             ·exact pA
             refine pure_ (i := 11) (N := some 4) (v := ?_) (a' := ?_) (bm 12 4095) rfl rfl (any_of HT_.out (by kernel_rfl)) (fun _ _ _ h => h) (Or.inl ⟨by kernel_rfl, ?_⟩) ?_ ?_
             rotate_left
             ·intro w'
              go_simp
              with_reducible rfl
             rotate_left
             ·exact pA
             refine done_ (done_of HT_.out (by kernel_rfl)) ?_
             try go_wp2
             go_ret
             exact ⟨pE, pB⟩
            ·replace c104 := Bool.eq_false_iff.mpr c104
             subst c104
             rw [if_neg (show ¬ (false = true) by decide)] at H
             exact absurd H (by simp)
           ·rw [if_neg c101] at H
            have c101b0 : (t895 == 0) = false := beq_eq_false_iff_ne.mpr c101
            have c101b1 : (t895 != 0) = true := bne_iff_ne.mpr c101
            exact absurd H (by simp)
          ·rw [if_neg c99] at H
           have c99b0 : (t854 == 0) = false := beq_eq_false_iff_ne.mpr c99
           have c99b1 : (t854 != 0) = true := bne_iff_ne.mpr c99
           replace H := Option.bind_eq_some_iff.mp H
           obtain ⟨t888, A1280, H⟩ := H
           try dsimp only at H
           have A128 := am A1280
           clear A1280
           obtain rfl := Option.some.inj H
           go_wp2_with (first | ((with_reducible refine gate_callee (f := 8) rfl ?_); refine goesL_ (some 66) rfl rfl Tryd.func8 (by kernel_rfl) rfl #[] rfl pM ?_; (with_reducible refine (minstrellaw19_lives.calls kj58  t888 _ ?side1 A128.out).mono ?_); (case side1 => exact pG); rintro e w129 ⟨rfl, hb⟩; refine ⟨_, rfl, ?_⟩; replace HO_856003 := am (Kd.N_below (pN HO_856003.out) hb); replace HO_864003 := am (Kd.V_below (pV HO_864003.out) hb); replace HO_879003 := am (Kd.R_below (pR HO_879003.out) hb); replace HO_887003 := am (Kd.R_below (pR HO_887003.out) hb); replace BK844 := am (pkb BK844.out hb); replace BK845 := am (pkb BK845.out hb); replace BK855 := am (pkb BK855.out hb); replace BK863 := am (pkb BK863.out hb); replace BK878 := am (pkb BK878.out hb); replace BK886 := am (pkb BK886.out hb); replace HB := am (below_step pB hb); (try clear hb); (try clear hb2); (try clear hk); (try clear hi)))
           go_ret
           exact ⟨pE, pB⟩
end Go.Proofs.YtlkaffbgekbcfaaDoor.Pr
end
section
namespace Go.Proofs.YtlkaffbgekbcfaaDoor.Pr
open Go.RowKit Go.Proofs.YtlkaffbgekbcfaaDoorW.PrintWords Go.Proofs.YtlkaffbgekbcfaaDoorW.PrintLast Go.Proofs.YtlkaffbgekbcfaaDoorW.PrintMore
theorem rd_at (L : List S26) (j : Nat) (h : j < L.length) : rd_T26 L (j : Int) = L[j] := by
 unfold rd_T26
 rw [Int.toNat_natCast, List.getD_eq_getElem?_getD, List.getElem?_eq_getElem h]
 rfl
def allC {α : Type} (f : α → α → Option Bool) : List α → List α → Option Bool
 | x :: xs, y :: ys => (f x y).bind fun r => if r then allC f xs ys else some false
 | _, _ => some true
def sameC : Nat → S26 → S26 → Option Bool
 | 0, _, _ => none
 | k + 1, a, b =>
  if a.f0 = b.f0 then
   if a.f0 = 0 then some (a.f1 == b.f1)
   else if a.f0 = 1 then some (a.f2.toList == b.f2.toList)
   else if a.f0 = 2 then if a.f3.length = b.f3.length then allC (sameC k) a.f3 b.f3 else some false
   else some true
  else some false
end Go.Proofs.YtlkaffbgekbcfaaDoor.Pr
end
section
namespace Go.Proofs.YtlkaffbgekbcfaaDoor.Pure
open Go.RowKit Go.Proofs.YtlkaffbgekbcfaaDoor.Pr Go.Proofs.YtlkaffbgekbcfaaDoorW.PrintWords Go.Proofs.YtlkaffbgekbcfaaDoorW.PrintLast Go.Proofs.YtlkaffbgekbcfaaDoorW.PrintMore
def Bts (bs : List Int) : Prop := ∀ x ∈ bs, 0 ≤ x ∧ x < 256
theorem Bts.nil : Bts [] := fun _ h => by cases h
theorem Bts.take {bs : List Int} (h : Bts bs) (n : Nat) : Bts (bs.take n) := fun x hx => h x (List.mem_of_mem_take hx)
theorem Bts.drop {bs : List Int} (h : Bts bs) (n : Nat) : Bts (bs.drop n) := fun x hx => h x (List.mem_of_mem_drop hx)
theorem Bts.append {a b : List Int} (h : Bts a) (k : Bts b) : Bts (a ++ b) := fun x hx => (List.mem_append.1 hx).elim (h x) (k x)
theorem Bts.cons {b : Int} {bs : List Int} (h : 0 ≤ b ∧ b < 256) (k : Bts bs) : Bts (b :: bs) := fun x hx => by
 rcases List.mem_cons.1 hx with rfl | hx
 ·exact h
 ·exact k x hx
def beV : List Int → Int → Int
 | [], n => n
 | x :: xs, n => beV xs (n * 256 + x)
theorem wrap64_in (x : Int) (h0 : -9223372036854775808 ≤ x) (h1 : x ≤ 9223372036854775807) : wrap64 x = x := by unfold wrap64; omega
end Go.Proofs.YtlkaffbgekbcfaaDoor.Pure
end
section
namespace Go.Proofs.YtlkaffbgekbcfaaDoor.Pure
open Go.RowKit Go.Proofs.YtlkaffbgekbcfaaDoor.Pr Go.Proofs.YtlkaffbgekbcfaaDoorW.PrintWords Go.Proofs.YtlkaffbgekbcfaaDoorW.PrintLast Go.Proofs.YtlkaffbgekbcfaaDoorW.PrintMore
end Go.Proofs.YtlkaffbgekbcfaaDoor.Pure
end
section
namespace Go.Proofs.YtlkaffbgekbcfaaDoor.Pr
open Go.RowKit Go.Proofs.YtlkaffbgekbcfaaDoorW.PrintWords Go.Proofs.YtlkaffbgekbcfaaDoorW.PrintLast Go.Proofs.YtlkaffbgekbcfaaDoorW.PrintMore
set_option maxRecDepth 100000
def wfc : Nat → S26 → Prop
 | 0, _ => True
 | k + 1, c => (Lit.int .i64 c.f0).wf = true ∧ (Lit.int .u64 c.f1).wf = true ∧ c.f2.size ≤ maxLen ∧ c.f3.length ≤ maxLen ∧ ∀ x ∈ c.f3, wfc k x
def szc : Nat → S26 → Prop
 | 0, _ => True
 | k + 1, c => c.f2.size ≤ 140737488351232 ∧ ∀ x ∈ c.f3, szc k x
theorem weightsAll_mem {H : Type} {P : Program} {e : TypeId} : ∀ {l : List (DataW H)} {d : DataW H}, d ∈ l → ∀ n ∈ d.weights P e, n ∈ DataW.weightsAll P e l
 | [], d, hd, n, hn => by cases hd
 | x :: l, d, hd, n, hn => by
  rw [DataW.weightsAll]
  rcases List.mem_cons.1 hd with rfl | hd
  ·exact List.mem_append_left _ hn
  ·exact List.mem_append_right _ (weightsAll_mem hd n hn)
theorem list_of {α : Type} {Q : Nat → α → Prop} : ∀ (n : Nat), (∀ i, i < n → ∃ x, Q i x) → ∃ L : List α, L.length = n ∧ ∀ i x, L[i]? = some x → Q i x
 | 0, _ => ⟨[], rfl, fun i x h => by simp at h⟩
 | n + 1, h => by
  obtain ⟨L, hl, hL⟩ := list_of n (fun i hi => h i (by omega))
  obtain ⟨x, hx⟩ := h n (by omega)
  refine ⟨L ++ [x], by simp [hl], fun i y hy => ?_⟩
  rcases Nat.lt_or_ge i L.length with hlt | hge
  ·rw [List.getElem?_append_left hlt] at hy
   exact hL i y hy
  ·have hi := (List.getElem?_eq_some_iff.1 hy).1
   rw [List.length_append, List.length_singleton] at hi
   have : i = n := by omega
   subst this
   rw [List.getElem?_append_right (by omega), hl, Nat.sub_self] at hy
   have : x = y := by simpa using hy
   subst this
   exact hx
theorem open_cells {H : Type} {enc : TypeId × Value → H} {w : World} : ∀ (fuel : Nat) (cs : List Value) (x : DataW H × List MemPlace), DataW.trod enc Tryd.prog w 0 (fun _ => true) true fuel 26 cs = some x →
  ∃ c : S26, k26.K w c cs ∧ (∀ j, wfc j c) ∧ ((∀ n ∈ x.1.weights Tryd.prog 26, n ≤ reachBytes) → ∀ j, szc j c) := by
 intro fuel
 induction fuel using Nat.strongRecOn with
 | _ fuel ih =>
 intro cs x h
 obtain ⟨xs, n, hn, rfl, hl, hlen, hf⟩ := DataW.trod_struct Tryd.underlying26 h
 have hl4 : cs.length = 4 := hl
 obtain ⟨v0, v1, v2, v3, rfl⟩ : ∃ v0 v1 v2 v3, cs = [v0, v1, v2, v3] := by
  match cs, hl4 with
  | [a, b, c, d], _ => exact ⟨a, b, c, d, rfl⟩
 have hxl : xs.length = 4 := hlen
 obtain ⟨y0, y1, y2, y3, rfl⟩ : ∃ y0 y1 y2 y3, xs = [y0, y1, y2, y3] := by
  match xs, hxl with
  | [a, b, c, d], _ => exact ⟨a, b, c, d, rfl⟩
 have g0 : DataW.trod enc Tryd.prog w 0 (fun _ => true) true n 3 [v0] = some y0 := hf 0 _ rfl
 have g1 : DataW.trod enc Tryd.prog w 0 (fun _ => true) true n 22 [v1] = some y1 := hf 1 _ rfl
 have g2 : DataW.trod enc Tryd.prog w 0 (fun _ => true) true n 9 [v2] = some y2 := hf 2 _ rfl
 have g3 : DataW.trod enc Tryd.prog w 0 (fun _ => true) true n 24 [v3] = some y3 := hf 3 _ rfl
 obtain ⟨K, e0, _, w0⟩ := DataW.trod_int Tryd.underlying3 g0
 obtain ⟨N, e1, _, w1⟩ := DataW.trod_int Tryd.underlying22 g1
 obtain ⟨S, e2, z2, w2⟩ := DataW.trod_string Tryd.underlying9 g2
 have hfs : ∀ n, n ∈ (y2.1.weights Tryd.prog 9) ∨ n ∈ (y3.1.weights Tryd.prog 24) → n ∈ DataW.weights Tryd.prog 26 (.agg [y0.1, y1.1, y2.1, y3.1]) := by
  intro n hn
  simp only [DataW.weights, Tryd.underlying26]
  show n ∈ DataW.weightsEach Tryd.prog [3, 22, 9, 24] [y0.1, y1.1, y2.1, y3.1]
  simp only [DataW.weightsEach, List.mem_append, List.append_nil]
  rcases hn with hn | hn
  ·exact .inr (.inr (.inl hn))
  ·exact .inr (.inr (.inr hn))
 have hS : (∀ n ∈ DataW.weights Tryd.prog 26 (.agg [y0.1, y1.1, y2.1, y3.1] : DataW H), n ≤ reachBytes) → S.size ≤ 140737488351232 := fun hall => by
  have := hall S.size (hfs _ (.inl (by rw [z2]; simp [DataW.weights, Array.length_toList])))
  exact this
 injection e0 with e0 _
 injection e1 with e1 _
 injection e2 with e2 _
 subst e0 e1 e2
 rcases DataW.trod_slice Tryd.underlying24 g3 with ⟨e3, _⟩ | ⟨a, len, cap, elems, rest, m, hm, e3, z3, _, hlc, hcap, hel, helem, _, _⟩
 ·injection e3 with e3 _
  subst e3
  refine ⟨⟨K, N, S, []⟩, k26_mk w ⟨K, N, S, []⟩ (A3 := none) (c3 := 0) (Nat.le_refl _) (Kd.C_nil _ _), fun j => ?_, fun hall j => ?_⟩
  ·cases j with
   | zero => trivial
   | succ j => exact ⟨w0, w1, w2, by simp, fun x hx => by cases hx⟩
  ·cases j with
   | zero => trivial
   | succ j => exact ⟨hS hall, fun x hx => by cases hx⟩
 ·injection e3 with e3 _
  subst e3
  have hex : ∀ i, i < len → ∃ c : S26, (∃ cs', k26.K w c cs' ∧ ∀ (j : Nat) (u : Value), cs'[j]? = some u → w.cell? (a.add (i * 4 + j)) = some u) ∧ (∀ j, wfc j c) ∧ ((∀ n ∈ DataW.weights Tryd.prog 26 (.agg [y0.1, y1.1, y2.1, y3.1] : DataW H), n ≤ reachBytes) → ∀ j, szc j c) := by
   intro i hi
   have h1 := helem i hi
   rw [List.getElem?_eq_getElem (by omega)] at h1
   obtain ⟨cs', h2, h3⟩ := Option.bind_eq_some_iff.mp h1
   obtain ⟨c, hK, hw, hz⟩ := ih m (by omega) cs' _ h3
   obtain ⟨_, h4, h5⟩ := World.cells?_some h2
   refine ⟨c, ⟨cs', hK, fun j u hu => ?_⟩, hw, fun hall => hz (fun n hn => hall n (hfs n (.inr ?_)))⟩
   rotate_left
   ·rw [z3]
    simp only [DataW.weights, Tryd.underlying24]
    exact List.mem_cons_of_mem _ (List.mem_append_left _ (weightsAll_mem (List.mem_map_of_mem (List.getElem_mem _)) n hn))
   have hj : j < 4 := by have := (List.getElem?_eq_some_iff.1 hu).1; have := k26.K_len hK; have e4 : k26.sz = 4 := rfl; omega
   have hc4 : Tryd.prog.cellsOf 26 = 4 := by kernel_rfl
   rw [hc4] at h5
   have h6 := h5 j (by omega)
   rw [add_add] at h6
   exact h6.trans hu
  obtain ⟨L, hL, hLe⟩ := list_of len hex
  subst hL
  refine ⟨⟨K, N, S, L⟩, k26_mk w ⟨K, N, S, L⟩ (A3 := some a) (c3 := cap) hlc ?_, fun j => ?_, fun hall j => ?_⟩
  ·refine ⟨rfl, by show L.length ≤ _; simp only [maxLen] at hcap; omega, fun _ => ⟨a, rfl, fun i p hp => ?_⟩⟩
   obtain ⟨⟨cs', hK, hc⟩, _⟩ := hLe i p hp
   exact ⟨cs', k26.K_len hK, hK, hc⟩
  ·cases j with
   | zero => trivial
   | succ j =>
    refine ⟨w0, w1, w2, by show L.length ≤ _; omega, fun x hx => ?_⟩
    obtain ⟨i, hi⟩ := List.getElem?_of_mem hx
    exact (hLe i x hi).2.1 j
  ·cases j with
   | zero => trivial
   | succ j =>
    refine ⟨hS hall, fun x hx => ?_⟩
    obtain ⟨i, hi⟩ := List.getElem?_of_mem hx
    exact (hLe i x hi).2.2 hall j
theorem open_cell {H : Type} {enc : TypeId × Value → H} {w : World} {r : Reach} {b0 : Nat} {v : Value} {d : DataW H} {ps : List MemPlace} (hval : Value.okWide Tryd.prog w r b0 26 v) (hd : DataW.Trod enc Tryd.prog w 0 (fun _ => true) true 26 v d ps) :
  ∃ (c : S26) (A : Option Addr) (cap : Nat), v = .agg #[.int .i64 c.f0, .int .u64 c.f1, .string c.f2, .slice A c.f3.length cap] ∧ Kd.C k26 w A c.f3.length c.f3 ∧ c.f3.length ≤ cap ∧ (∀ j, wfc j c) ∧ ((∀ n ∈ d.weights Tryd.prog 26, n ≤ reachBytes) → ∀ j, szc j c) := by
 obtain ⟨cs, rfl, hsz⟩ := Go.WideShapes.okWide_struct Tryd.underlying26 hval
 obtain ⟨fuel, hf⟩ := hd
 obtain ⟨c, hK, hw⟩ := open_cells fuel _ _ hf
 obtain ⟨A, cap, hcs, hle, hC⟩ := k26_open hK
 have hcs' : cs.toList = [.int .i64 c.f0, .int .u64 c.f1, .string c.f2, .slice A c.f3.length cap] := hcs
 refine ⟨c, A, cap, ?_, hC, hle, hw⟩
 congr 1
 exact Array.ext' (by simpa using hcs')
end Go.Proofs.YtlkaffbgekbcfaaDoor.Pr
end
section
namespace Go.Proofs.YtlkaffbgekbcfaaDoor.Pure
open Go.RowKit Go.Proofs.YtlkaffbgekbcfaaDoor.Pr Go.Proofs.YtlkaffbgekbcfaaDoorW.PrintWords Go.Proofs.YtlkaffbgekbcfaaDoorW.PrintLast Go.Proofs.YtlkaffbgekbcfaaDoorW.PrintMore
def nrm : Nat → S26 → S26
 | 0, c => c
 | k + 1, c => if c.f0 = 0 then ⟨0, c.f1, ⟨#[]⟩, []⟩ else if c.f0 = 1 then ⟨1, 0, c.f2, []⟩ else ⟨2, 0, ⟨#[]⟩, c.f3.map (nrm k)⟩
structure WR (rd : List Int → Option (S26 × List Int × Int)) (c : S26) (e : List Int) : Prop where
 bts : Bts e
 one : 1 ≤ e.length
 whole : ∀ rest, rd (e ++ rest) = some (c, rest, 0)
 front : ∀ n, n < e.length → ∃ z r, rd (e.take n) = some (z, r, 3)
end Go.Proofs.YtlkaffbgekbcfaaDoor.Pure
end
section
namespace Go.Proofs.YtlkaffbgekbcfaaDoor.Pure
open Go.RowKit Go.Proofs.YtlkaffbgekbcfaaDoor.Pr Go.Proofs.YtlkaffbgekbcfaaDoorW.PrintWords Go.Proofs.YtlkaffbgekbcfaaDoorW.PrintLast Go.Proofs.YtlkaffbgekbcfaaDoorW.PrintMore
def dep : Nat → S26 → Bool
 | 0, _ => false
 | k + 1, c => c.f3.all (dep k)
theorem dep_mono : ∀ (k : Nat) (c : S26), dep k c = true → dep (k + 1) c = true
 | 0, c, h => by simp [dep] at h
 | k + 1, c, h => by
  rw [dep] at h ⊢
  simp only [List.all_eq_true] at h ⊢
  exact fun x hx => dep_mono k x (h x hx)
theorem dep_le {k j : Nat} {c : S26} (h : dep k c = true) (hkj : k ≤ j) : dep j c = true := by
 obtain ⟨d, rfl⟩ := Nat.exists_eq_add_of_le hkj
 clear hkj
 induction d with
 | zero => exact h
 | succ d ih => exact dep_mono _ _ ih
theorem exists_dep (c : S26) : ∃ k, dep k c = true :=
 S26.rec (motive_1 := fun c => ∃ k, dep k c = true) (motive_2 := fun L => ∃ k, L.all (dep k) = true)
  (fun f0 f1 f2 f3 ih => by
   obtain ⟨k, hk⟩ := ih
   exact ⟨k + 1, hk⟩)
  ⟨0, rfl⟩
  (fun x L ih1 ih2 => by
   obtain ⟨k, hk⟩ := ih1
   obtain ⟨j, hj⟩ := ih2
   refine ⟨max k j, ?_⟩
   rw [List.all_cons, Bool.and_eq_true]
   refine ⟨dep_le hk (Nat.le_max_left _ _), ?_⟩
   simp only [List.all_eq_true] at hj ⊢
   exact fun y hy => dep_le (hj y hy) (Nat.le_max_right _ _)) c
theorem allC_refl {k : Nat} {f : S26 → S26 → Option Bool} (hf : ∀ x, dep k x = true → f x x = some true) : ∀ (L : List S26), L.all (dep k) = true → allC f L L = some true
 | [], h => rfl
 | x :: L, h => by
  rw [List.all_cons, Bool.and_eq_true] at h
  simp only [allC, hf x h.1, Option.bind_some, if_true]
  exact allC_refl hf L h.2
theorem sameC_refl : ∀ (k : Nat) (a : S26), dep k a = true → sameC k a a = some true
 | 0, a, h => by simp [dep] at h
 | k + 1, a, h => by
  rw [dep] at h
  simp only [sameC, if_true, allC_refl (fun x hx => sameC_refl k x hx) a.f3 h, beq_self_eq_true, ite_self]
theorem same_loop (K : Nat) (a b : S26) (hla : a.f3.length ≤ 9223372036854775807) (hlen : a.f3.length = b.f3.length)
  (ih : ∀ (x y : S26) (r : Bool), x ∈ a.f3 → y ∈ b.f3 → sameC K x y = some r → Ev (fun k => minstrelref07_Same.f k x.f0 x.f1 x.f2 x.f3 y.f0 y.f1 y.f2 y.f3) r) :
  ∀ (m n : Nat) (r : Bool), n + m = a.f3.length → allC (sameC K) (a.f3.drop n) (b.f3.drop n) = some r → Ev (fun k => minstrelref07_Same.l0 k (n : Int) a.f0 a.f1 a.f2 a.f3 b.f0 b.f1 b.f2 b.f3) r
 | 0, n, r, hn, h => by
  rw [List.drop_eq_nil_of_le (by omega)] at h
  simp only [allC, Option.some.injEq] at h
  subst h
  refine Ev.step (f := fun k => some true) (fun k => ?_) (Ev.now _)
  rw [minstrelref07_Same.l0, if_neg (by omega)]
 | m + 1, n, r, hn, h => by
  have hna : n < a.f3.length := by omega
  have hnb : n < b.f3.length := by omega
  rw [List.drop_eq_getElem_cons hna, List.drop_eq_getElem_cons hnb] at h
  simp only [allC] at h
  obtain ⟨r1, h1, h2⟩ := Option.bind_eq_some_iff.mp h
  have hx : rd_T26 a.f3 (n : Int) = a.f3[n] := rd_at _ n hna
  have hy : rd_T26 b.f3 (n : Int) = b.f3[n] := rd_at _ n hnb
  refine Ev.step (f := fun k => (minstrelref07_Same.f k (a.f3[n].f0) (a.f3[n].f1) (a.f3[n].f2) (a.f3[n].f3) (b.f3[n].f0) (b.f3[n].f1) (b.f3[n].f2) (b.f3[n].f3)).bind fun t134 => (if t134 = true then (minstrelref07_Same.l0 k ((n + 1 : Nat) : Int) a.f0 a.f1 a.f2 a.f3 b.f0 b.f1 b.f2 b.f3) else (some false))) (fun k => ?_) (Ev.bind (ih _ _ r1 (List.getElem_mem _) (List.getElem_mem _) h1) ?_)
  ·rw [minstrelref07_Same.l0, if_pos (by omega), if_pos (by omega), if_pos (by omega), hx, hy, wrap64_in _ (by omega) (by omega)]
   rfl
  ·cases r1 with
   | true =>
    rw [if_pos rfl] at h2
    simp only [if_true]
    exact same_loop K a b hla hlen ih m (n + 1) r (by omega) h2
   | false =>
    rw [if_neg (by decide)] at h2
    obtain rfl := Option.some.inj h2
    simp only [Bool.false_eq_true, if_false]
    exact Ev.now _
def len : Nat → S26 → Prop
 | 0, _ => True
 | k + 1, c => c.f3.length ≤ 9223372036854775807 ∧ ∀ x ∈ c.f3, len k x
theorem same_eq : ∀ (K : Nat) (a b : S26) (r : Bool), len K a → sameC K a b = some r → Ev (fun k => minstrelref07_Same.f k a.f0 a.f1 a.f2 a.f3 b.f0 b.f1 b.f2 b.f3) r
 | 0, a, b, r, hl, h => by simp [sameC] at h
 | K + 1, a, b, r, hl, h => by
  simp only [sameC] at h
  by_cases h0 : a.f0 = b.f0
  ·rw [if_pos h0] at h
   by_cases h1 : a.f0 = 0
   ·rw [if_pos h1] at h
    obtain rfl := Option.some.inj h
    refine Ev.step (f := fun k => some (a.f1 == b.f1)) (fun k => ?_) (Ev.now _)
    rw [minstrelref07_Same.f, if_pos h0, if_pos h1]
   ·rw [if_neg h1] at h
    by_cases h2 : a.f0 = 1
    ·rw [if_pos h2] at h
     obtain rfl := Option.some.inj h
     refine Ev.step (f := fun k => some (a.f2.toList == b.f2.toList)) (fun k => ?_) (Ev.now _)
     rw [minstrelref07_Same.f, if_pos h0, if_neg h1, if_pos h2]
    ·rw [if_neg h2] at h
     by_cases h3 : a.f0 = 2
     ·rw [if_pos h3] at h
      by_cases h4 : a.f3.length = b.f3.length
      ·rw [if_pos h4] at h
       refine Ev.step (f := fun k => minstrelref07_Same.l0 k 0 a.f0 a.f1 a.f2 a.f3 b.f0 b.f1 b.f2 b.f3) (fun k => ?_) (same_loop K a b hl.1 h4 (fun x y r hx hy hr => same_eq K x y r (hl.2 x hx) hr) a.f3.length 0 r (by omega) h)
       rw [minstrelref07_Same.f, if_pos h0, if_neg h1, if_neg h2, if_pos h3, if_pos (by omega)]
      ·rw [if_neg h4] at h
       obtain rfl := Option.some.inj h
       refine Ev.step (f := fun k => some false) (fun k => ?_) (Ev.now _)
       rw [minstrelref07_Same.f, if_pos h0, if_neg h1, if_neg h2, if_pos h3, if_neg (by omega)]
     ·rw [if_neg h3] at h
      obtain rfl := Option.some.inj h
      refine Ev.step (f := fun k => some true) (fun k => ?_) (Ev.now _)
      rw [minstrelref07_Same.f, if_pos h0, if_neg h1, if_neg h2, if_neg h3]
  ·rw [if_neg h0] at h
   obtain rfl := Option.some.inj h
   refine Ev.step (f := fun k => some false) (fun k => ?_) (Ev.now _)
   rw [minstrelref07_Same.f, if_neg h0]
end Go.Proofs.YtlkaffbgekbcfaaDoor.Pure
end
section
namespace Go.Proofs.YtlkaffbgekbcfaaDoor.Pure
open Go.RowKit Go.Proofs.YtlkaffbgekbcfaaDoor.Pr Go.Proofs.YtlkaffbgekbcfaaDoorW.PrintWords Go.Proofs.YtlkaffbgekbcfaaDoorW.PrintLast Go.Proofs.YtlkaffbgekbcfaaDoorW.PrintMore
def lenB : Nat → S26 → Prop
 | 0, _ => True
 | k + 1, c => c.f3.length ≤ 3000 ∧ ∀ x ∈ c.f3, lenB k x
theorem eta26 (c : S26) : (⟨c.f0, c.f1, c.f2, c.f3⟩ : S26) = c := by cases c; rfl
theorem small_loop (K : Nat) (c : S26) (most deep : Int) (hl : c.f3.length ≤ 9223372036854775807) (hm0 : -deep ≤ most) (hm1 : most ≤ 3000) (hd0 : 0 ≤ deep) (hd1 : deep ≤ 100)
  (ih : ∀ x ∈ c.f3, ∀ most deep : Int, -deep ≤ most → most ≤ 3000 → 0 ≤ deep → deep ≤ 101 → ∃ n ok, Ev (fun k => minstrelref07_Small.f k x.f0 x.f1 x.f2 x.f3 most deep) (n, ok) ∧ 1 ≤ n ∧ n ≤ 3000 + (102 - deep) ∧ (1 ≤ most → n ≤ most + (102 - deep)) ∧ (most < 1 → n ≤ 1 + (102 - deep)) ∧ (ok = true → lenB K x)) :
  ∀ (m n : Nat) (x8 : Int), n + m = c.f3.length → (n : Int) + 1 ≤ x8 → (x8 ≤ most ∨ x8 = 1) → (n = 0 ∨ x8 ≤ most) → (∀ x ∈ c.f3.take n, lenB K x) →
   ∃ r ok, Ev (fun k => minstrelref07_Small.l0 k most deep x8 (n : Int) c.f0 c.f1 c.f2 c.f3) (r, ok) ∧ 1 ≤ r ∧ r ≤ 3000 + (102 - deep) ∧ (1 ≤ most → r ≤ most + (102 - deep)) ∧ (most < 1 → r ≤ 1 + (102 - deep)) ∧ (ok = true → lenB (K + 1) c)
 | 0, n, x8, hn, h8, hx, hx0, hall => by
  refine ⟨x8, true, ?_, by omega, by omega, by omega, by omega, fun _ => ⟨by omega, ?_⟩⟩
  ·refine Ev.step (f := fun k => some (x8, true)) (fun k => ?_) (Ev.now _)
   rw [minstrelref07_Small.l0, if_neg (by omega)]
  ·rwa [List.take_of_length_le (by omega)] at hall
 | m + 1, n, x8, hn, h8, hx, hx0, hall => by
  have hna : n < c.f3.length := by omega
  have hrd : rd_T26 c.f3 (n : Int) = c.f3[n] := rd_at _ n hna
  obtain ⟨p, ok, hp, hp1, hp2, hp3, hp4, hpk⟩ := ih c.f3[n] (List.getElem_mem _) (most - x8) (deep + 1) (by omega) (by omega) (by omega) (by omega)
  have e1 : wrap64 (most - x8) = most - x8 := wrap64_in _ (by omega) (by omega)
  have e2 : wrap64 (deep + 1) = deep + 1 := wrap64_in _ (by omega) (by omega)
  have e3 : wrap64 (x8 + p) = x8 + p := wrap64_in _ (by omega) (by omega)
  have e4 : wrap64 ((n : Int) + 1) = ((n + 1 : Nat) : Int) := wrap64_in _ (by omega) (by omega)
  have E := And.intro e1 (And.intro e2 (And.intro e3 e4))
  replace E := Aside0.mk E
  clear e1 e2 e3 e4
  have hstep : ∀ k, minstrelref07_Small.l0 (k + 1) most deep x8 (n : Int) c.f0 c.f1 c.f2 c.f3 = (minstrelref07_Small.f k (c.f3[n].f0) (c.f3[n].f1) (c.f3[n].f2) (c.f3[n].f3) (most - x8) (deep + 1)).bind fun bt => (if bt.2 = true then (if (wrap64 (x8 + bt.1)) > most then (some (wrap64 (x8 + bt.1), false)) else (minstrelref07_Small.l0 k most deep (wrap64 (x8 + bt.1)) ((n + 1 : Nat) : Int) c.f0 c.f1 c.f2 c.f3)) else (some (wrap64 (x8 + bt.1), false))) := fun k => by
   rw [minstrelref07_Small.l0, if_pos (by omega), if_pos (by omega), hrd, E.out.1, E.out.2.1, E.out.2.2.2]
  cases ok with
  | false =>
   refine ⟨x8 + p, false, Ev.step hstep (Ev.bind hp ?_), by omega, by omega, by omega, by omega, fun h => by cases h⟩
   simp only [Bool.false_eq_true, if_false, E.out.2.2.1]
   exact Ev.now _
  | true =>
   by_cases hgt : x8 + p > most
   ·refine ⟨x8 + p, false, Ev.step hstep (Ev.bind hp ?_), by omega, by omega, by omega, by omega, fun h => by cases h⟩
    simp only [if_true, E.out.2.2.1, if_pos hgt]
    exact Ev.now _
   ·obtain ⟨r, ok, hr, hrest⟩ := small_loop K c most deep hl hm0 hm1 hd0 hd1 ih m (n + 1) (x8 + p) (by omega) (by omega) (by omega) (by omega) (fun x hx => by
     rw [List.take_succ_eq_append_getElem hna] at hx
     rcases List.mem_append.1 hx with hx | hx
     ·exact hall x hx
     ·rw [List.mem_singleton.1 hx]; exact hpk rfl)
    refine ⟨r, ok, Ev.step hstep (Ev.bind hp ?_), hrest⟩
    simp only [if_true, E.out.2.2.1, if_neg hgt]
    exact hr
theorem small_ev : ∀ (K : Nat) (c : S26), dep K c = true → (∀ j, wfc j c) → ∀ most deep : Int, -deep ≤ most → most ≤ 3000 → 0 ≤ deep → deep ≤ 101 →
  ∃ n ok, Ev (fun k => minstrelref07_Small.f k c.f0 c.f1 c.f2 c.f3 most deep) (n, ok) ∧ 1 ≤ n ∧ n ≤ 3000 + (102 - deep) ∧ (1 ≤ most → n ≤ most + (102 - deep)) ∧ (most < 1 → n ≤ 1 + (102 - deep)) ∧ (ok = true → lenB K c)
 | 0, c, h, hw, most, deep, h0, h1, h2, h3 => by simp [dep] at h
 | K + 1, c, h, hw, most, deep, h0, h1, h2, h3 => by
  rw [dep] at h
  simp only [List.all_eq_true] at h
  by_cases hd : deep > 100
  ·refine ⟨1, false, Ev.step (f := fun k => some (1, false)) (fun k => ?_) (Ev.now _), by omega, by omega, by omega, by omega, fun h => by cases h⟩
   rw [minstrelref07_Small.f, if_pos hd]
  ·have hl : c.f3.length ≤ 9223372036854775807 := by
    have := (hw 1).2.2.2.1
    simp only [maxLen] at this
    omega
   obtain ⟨r, ok, hr, hrest⟩ := small_loop K c most deep hl h0 h1 h2 (by omega) (fun x hx most deep => small_ev K x (h x hx) (fun j => (hw (j + 1)).2.2.2.2 x hx) most deep) c.f3.length 0 1 (by omega) (by omega) (.inr rfl) (.inl rfl) (fun x hx => by simp at hx)
   refine ⟨r, ok, Ev.step (fun k => ?_) hr, hrest⟩
   rw [minstrelref07_Small.f, if_neg hd]
   rfl
theorem own_loop (c : S26) (hl : c.f3.length ≤ 3000) (ih : ∀ x ∈ c.f3, Ev (fun k => minstrelref07_Own.f k x.f0 x.f1 x.f2 x.f3) (x.f0, x.f1, x.f2, x.f3)) :
  ∀ (m n : Nat), n + m = c.f3.length → Ev (fun k => minstrelref07_Own.l0 k (c.f3.take n) (n : Int) c.f0 c.f1 c.f2 c.f3) (c.f0, c.f1, c.f2, c.f3)
 | 0, n, hn => by
  refine Ev.step (f := fun k => some (c.f0, c.f1, c.f2, c.f3)) (fun k => ?_) (Ev.now _)
  rw [minstrelref07_Own.l0, if_neg (by omega), List.take_of_length_le (by omega)]
 | m + 1, n, hn => by
  have hna : n < c.f3.length := by omega
  have hrd : rd_T26 c.f3 (n : Int) = c.f3[n] := rd_at _ n hna
  have e4 : wrap64 ((n : Int) + 1) = ((n + 1 : Nat) : Int) := wrap64_in _ (by omega) (by omega)
  refine Ev.step (f := fun k => (minstrelref07_Own.f k (c.f3[n].f0) (c.f3[n].f1) (c.f3[n].f2) (c.f3[n].f3)).bind fun bt => (if (c.f3.take n).length < 2513169434916 then (minstrelref07_Own.l0 k (c.f3.take n ++ [(⟨bt.1, bt.2.1, bt.2.2.1, bt.2.2.2⟩ : S26)]) ((n + 1 : Nat) : Int) c.f0 c.f1 c.f2 c.f3) else (none))) (fun k => ?_) (Ev.bind (ih _ (List.getElem_mem _)) ?_)
  ·rw [minstrelref07_Own.l0, if_pos (by omega), if_pos (by omega), hrd, e4]
  ·simp only [if_pos (show (c.f3.take n).length < 2513169434916 by rw [List.length_take]; omega)]
   have := own_loop c hl ih m (n + 1) (by omega)
   rw [List.take_succ_eq_append_getElem hna] at this
   rw [eta26]
   exact this
theorem own_ev : ∀ (K : Nat) (c : S26), dep K c = true → lenB K c → Ev (fun k => minstrelref07_Own.f k c.f0 c.f1 c.f2 c.f3) (c.f0, c.f1, c.f2, c.f3)
 | 0, c, h, hl => by simp [dep] at h
 | K + 1, c, h, hl => by
  rw [dep] at h
  simp only [List.all_eq_true] at h
  refine Ev.step (fun k => ?_) (own_loop c hl.1 (fun x hx => own_ev K x (h x hx) (hl.2 x hx)) c.f3.length 0 (by omega))
  rw [minstrelref07_Own.f]
  rfl
theorem small_top (c : S26) (hw : ∀ j, wfc j c) : ∃ ok, Ev (fun k => minstrellaw19_small.f k c.f0 c.f1 c.f2 c.f3) ok ∧ (ok = true → ∃ K, dep K c = true ∧ lenB K c) := by
 obtain ⟨K, hK⟩ := exists_dep c
 obtain ⟨n, ok, h1, _, _, _, _, h2⟩ := small_ev K c hK hw 2000 0 (by omega) (by omega) (by omega) (by omega)
 refine ⟨ok, Ev.congr (f := fun k => (minstrelref07_Small.f k c.f0 c.f1 c.f2 c.f3 2000 0).bind fun bt205 => (some bt205.2)) (fun k => ?_) (Ev.bind h1 (Ev.now _)), fun h => ⟨K, hK, h2 h⟩⟩
 unfold minstrellaw19_small.f
 rfl
end Go.Proofs.YtlkaffbgekbcfaaDoor.Pure
end
section
namespace Go.Proofs.YtlkaffbgekbcfaaDoor.Pure
open Go.RowKit Go.Proofs.YtlkaffbgekbcfaaDoor.Pr Go.Proofs.YtlkaffbgekbcfaaDoorW.PrintWords Go.Proofs.YtlkaffbgekbcfaaDoorW.PrintLast Go.Proofs.YtlkaffbgekbcfaaDoorW.PrintMore
def put2 (r : List Int × Int) : List Int × Int := if r.2 = 0 then (r.1, 0) else ([], r.2)
end Go.Proofs.YtlkaffbgekbcfaaDoor.Pure
end
section
namespace Go.Proofs.YtlkaffbgekbcfaaDoor.Pure
open Go.RowKit Go.Proofs.YtlkaffbgekbcfaaDoor.Pr Go.Proofs.YtlkaffbgekbcfaaDoorW.PrintWords Go.Proofs.YtlkaffbgekbcfaaDoorW.PrintLast Go.Proofs.YtlkaffbgekbcfaaDoorW.PrintMore
def okc : Nat → S26 → Prop
 | 0, _ => False
 | k + 1, c => c.f0 = 0 ∨ c.f0 = 1 ∨ (c.f0 = 2 ∧ ∀ x ∈ c.f3, okc k x)
end Go.Proofs.YtlkaffbgekbcfaaDoor.Pure
end
section
namespace Go.Proofs.YtlkaffbgekbcfaaDoor.Pure
open Go.RowKit Go.Proofs.YtlkaffbgekbcfaaDoor.Pr Go.Proofs.YtlkaffbgekbcfaaDoorW.PrintWords Go.Proofs.YtlkaffbgekbcfaaDoorW.PrintLast Go.Proofs.YtlkaffbgekbcfaaDoorW.PrintMore
end Go.Proofs.YtlkaffbgekbcfaaDoor.Pure
end
section
namespace Go.Proofs.YtlkaffbgekbcfaaDoor.Crc
def poly : Nat := 3988292384
def step (c : Nat) : Nat := (c >>> 1) ^^^ (if c % 2 = 1 then poly else 0)
def tab : List Nat := [0, 498536548, 997073096, 651767980, 1994146192, 1802195444, 1303535960, 1342533948, 3988292384, 4027552580, 3604390888, 3412177804, 2607071920, 2262029012, 2685067896, 3183342108]
def nib (c : Nat) : Nat := (c / 16) ^^^ tab.getD (c % 16) 0
def crcB (c x : Nat) : Nat := nib (nib (c ^^^ x))
def bitIn (c x k : Nat) : Nat := if c % 2 = (x >>> k) % 2 then c >>> 1 else (c >>> 1) ^^^ poly
def bitsIn (c x : Nat) : Nat → Nat
 | 0 => c
 | k + 1 => bitIn (bitsIn c x k) x k
def stepN (c : Nat) : Nat → Nat
 | 0 => c
 | k + 1 => step (stepN c k)
def crcL (c : Nat) (l : List Nat) : Nat := l.foldl crcB c
end Go.Proofs.YtlkaffbgekbcfaaDoor.Crc
end
section
namespace Go.Proofs.YtlkaffbgekbcfaaDoor.Pure
open Go.RowKit Go.Proofs.YtlkaffbgekbcfaaDoor.Pr Go.Proofs.YtlkaffbgekbcfaaDoorW.PrintWords Go.Proofs.YtlkaffbgekbcfaaDoorW.PrintLast Go.Proofs.YtlkaffbgekbcfaaDoorW.PrintMore Go.Proofs.YtlkaffbgekbcfaaDoor.Crc
def Bytes (l : List Int) : Prop := ∀ x ∈ l, 0 ≤ x ∧ x ≤ 255
def nat (l : List Int) : List Nat := l.map Int.toNat
def sumN (l : List Nat) : Nat := 4294967295 ^^^ crcL 4294967295 l
theorem getD_byte {l : List Int} (hl : Bytes l) {i : Nat} (hi : i < l.length) : 0 ≤ l.getD i 0 ∧ l.getD i 0 ≤ 255 := by
 rw [List.getD_eq_getElem?_getD, List.getElem?_eq_getElem hi]
 exact hl _ (List.getElem_mem hi)
end Go.Proofs.YtlkaffbgekbcfaaDoor.Pure
end
section
namespace Go.Proofs.YtlkaffbgekbcfaaDoor.Pr
open Go.RowKit Go.Proofs.YtlkaffbgekbcfaaDoorW.PrintWords Go.Proofs.YtlkaffbgekbcfaaDoorW.PrintLast Go.Proofs.YtlkaffbgekbcfaaDoorW.PrintMore Go.Proofs.YtlkaffbgekbcfaaDoor.Pure
def bytesB (l : List Int) : Bool := l.all fun x => decide (0 ≤ x) && decide (x ≤ 255)
theorem _root_.Go.Proofs.YtlkaffbgekbcfaaDoor.Pure.Bytes.getD {l : List Int} (h : Bytes l) {i : Nat} (hi : i < l.length) : 0 ≤ l.getD i 0 ∧ l.getD i 0 ≤ 255 := getD_byte h hi
def sumL (l : List Int) : Int := ((sumN (nat l) : Nat) : Int)
def frameL (l : List Int) : List Int := fourL (l.length : Int) ++ (fourL (sumL (fourL (l.length : Int) ++ l)) ++ l)
def num4 (l : List Int) : Int := ((l.getD 0 0 * 256 + l.getD 1 0) * 256 + l.getD 2 0) * 256 + l.getD 3 0
end Go.Proofs.YtlkaffbgekbcfaaDoor.Pr
end
section
namespace Go.Proofs.YtlkaffbgekbcfaaDoor.Pure
open Go.RowKit Go.Proofs.YtlkaffbgekbcfaaDoor.Pr Go.Proofs.YtlkaffbgekbcfaaDoorW.PrintWords Go.Proofs.YtlkaffbgekbcfaaDoorW.PrintLast Go.Proofs.YtlkaffbgekbcfaaDoorW.PrintMore Go.Proofs.YtlkaffbgekbcfaaDoor.Crc
end Go.Proofs.YtlkaffbgekbcfaaDoor.Pure
end
section
namespace Go.Proofs.YtlkaffbgekbcfaaDoor.Pure
open Go.RowKit Go.Proofs.YtlkaffbgekbcfaaDoor.Pr Go.Proofs.YtlkaffbgekbcfaaDoorW.PrintWords Go.Proofs.YtlkaffbgekbcfaaDoorW.PrintLast Go.Proofs.YtlkaffbgekbcfaaDoorW.PrintMore Go.Proofs.YtlkaffbgekbcfaaDoor.Crc
end Go.Proofs.YtlkaffbgekbcfaaDoor.Pure
end
section
namespace Go.Proofs.YtlkaffbgekbcfaaDoor.Pr
open Go.RowKit Go.Proofs.YtlkaffbgekbcfaaDoorW.PrintWords Go.Proofs.YtlkaffbgekbcfaaDoorW.PrintLast Go.Proofs.YtlkaffbgekbcfaaDoorW.PrintMore
attribute [local go_sem] max2_int min2_int max_two min_two max_three min_three max_four min_four
end Go.Proofs.YtlkaffbgekbcfaaDoor.Pr
end
section
namespace Go.Proofs.YtlkaffbgekbcfaaDoor.Pure
open Go.RowKit Go.Proofs.YtlkaffbgekbcfaaDoor.Pr Go.Proofs.YtlkaffbgekbcfaaDoorW.PrintWords Go.Proofs.YtlkaffbgekbcfaaDoorW.PrintLast Go.Proofs.YtlkaffbgekbcfaaDoorW.PrintMore
def canL : Int → List Int → Bool
 | _, [] => true
 | last, n :: r => if n ≤ last then false else if n > 64 then false else canL n r
def memB (l : List Int) : Bool := canL 0 l && decide ((l.length : Int) > 0)
theorem canL_len : ∀ (l : List Int) (last : Int), canL last l = true → 0 ≤ last → (l = [] ∨ last + l.length ≤ 64) ∧ ∀ x ∈ l, 0 < x ∧ x ≤ 64
 | [], last, h, h0 => ⟨.inl rfl, fun x hx => by cases hx⟩
 | n :: r, last, h, h0 => by
  rw [canL] at h
  by_cases h1 : n ≤ last
  ·simp [h1] at h
  ·rw [if_neg h1] at h
   by_cases h2 : n > 64
   ·simp [h2] at h
   ·rw [if_neg h2] at h
    obtain ⟨ha, hb⟩ := canL_len r n h (by omega)
    refine ⟨.inr ?_, fun x hx => ?_⟩
    ·rcases ha with rfl | ha
     ·simp; omega
     ·simp only [List.length_cons]; omega
    ·rcases List.mem_cons.1 hx with rfl | hx
     ·exact ⟨by omega, by omega⟩
     ·exact hb x hx
theorem memB_facts {l : List Int} (h : memB l = true) : 0 < l.length ∧ l.length ≤ 64 ∧ ∀ x ∈ l, 0 < x ∧ x ≤ 64 := by
 simp only [memB, Bool.and_eq_true, decide_eq_true_eq] at h
 obtain ⟨ha, hb⟩ := canL_len l 0 h.1 (by omega)
 refine ⟨by omega, ?_, hb⟩
 rcases ha with rfl | ha
 ·simp
 ·omega
theorem can_loop (l : List Int) (hl : l.length ≤ 9223372036854775807) : ∀ (m : Nat) (i last : Int), 0 ≤ i → i + m = l.length → Ev (fun k => snap_can.l0 k l last l (l.length : Int) i) (canL last (l.drop i.toNat) && decide ((l.length : Int) > 0))
 | 0, i, last, h0, hm => by
  have hd : l.drop i.toNat = [] := List.drop_eq_nil_of_le (by omega)
  rw [hd, canL, Bool.true_and]
  refine Ev.step (f := fun k => some (decide ((l.length : Int) > 0))) (fun k => ?_) (Ev.now _)
  rw [snap_can.l0, if_neg (by omega)]
 | m + 1, i, last, h0, hm => by
  have e1 := Aside0.mk (wrap64_in (i + 1) (by omega) (by omega))
  rw [drop_rdI l i h0 (by omega), canL]
  generalize hn : rd l i = n
  by_cases h1 : n ≤ last
  ·rw [if_pos h1]
   refine Ev.step (f := fun k => some false) (fun k => ?_) (Ev.now _)
   rw [snap_can.l0, if_pos (by omega), if_pos h0, if_pos (by omega), hn, if_pos h1]
  ·rw [if_neg h1]
   by_cases h2 : n > 64
   ·rw [if_pos h2]
    refine Ev.step (f := fun k => some false) (fun k => ?_) (Ev.now _)
    rw [snap_can.l0, if_pos (by omega), if_pos h0, if_pos (by omega), hn, if_neg h1, if_pos h2]
   ·rw [if_neg h2]
    refine Ev.step (f := fun k => snap_can.l0 k l n l (l.length : Int) (i + 1)) (fun k => ?_) (can_loop l hl m (i + 1) n (by omega) (by omega))
    rw [snap_can.l0, if_pos (by omega), if_pos h0, if_pos (by omega), hn, if_neg h1, if_neg h2, e1.out]
theorem can_ev (l : List Int) (hl : l.length ≤ 9223372036854775807) : Ev (fun k => snap_can.f k l) (memB l) := by
 have := can_loop l hl l.length 0 0 (by omega) (by omega)
 exact Ev.congr (fun k => by unfold snap_can.f; rfl) this
theorem refM_loop (l : List Int) (hl : l.length ≤ 9223372036854775807) : ∀ (m : Nat) (i : Int), 0 ≤ i → i + m = l.length → (0 < i → 1 ≤ rd l (i - 1)) → Ev (fun k => minstrelref19_Members.l0 k l i) (canL (if i = 0 then 0 else rd l (i - 1)) (l.drop i.toNat) && decide ((l.length : Int) > 0))
 | 0, i, h0, hm, hp => by
  have hd : l.drop i.toNat = [] := List.drop_eq_nil_of_le (by omega)
  rw [hd, canL, Bool.true_and]
  refine Ev.step (f := fun k => some (decide ((l.length : Int) > 0))) (fun k => ?_) (Ev.now _)
  rw [minstrelref19_Members.l0, if_neg (by omega)]
 | m + 1, i, h0, hm, hp => by
  have e1 := Aside0.mk (wrap64_in (i + 1) (by omega) (by omega))
  have hnext : ∀ n, rd l i = n → 1 ≤ n → Ev (fun k => minstrelref19_Members.l0 k l (i + 1)) (canL n (l.drop (i + 1).toNat) && decide ((l.length : Int) > 0)) := fun n hn h1 => by
   have := refM_loop l hl m (i + 1) (by omega) (by omega) (fun _ => by rw [show i + 1 - 1 = i by omega, hn]; exact h1)
   rw [if_neg (by omega), show i + 1 - 1 = i by omega, hn] at this
   exact this
  rw [drop_rdI l i h0 (by omega), canL]
  generalize hn : rd l i = n at hnext
  have hlast : 0 ≤ (if i = 0 then 0 else rd l (i - 1)) := by
   split
   ·omega
   ·have := hp (by omega); omega
  by_cases h1 : n < 1
  ·rw [if_pos (by omega)]
   refine Ev.step (f := fun k => some false) (fun k => ?_) (Ev.now _)
   rw [minstrelref19_Members.l0, if_pos (by omega), if_pos h0, hn, if_pos h1]
  ·by_cases h2 : n > 64
   ·have hx : (if n ≤ (if i = 0 then 0 else rd l (i - 1)) then false else if n > 64 then false else canL n (l.drop (i + 1).toNat)) = false := by simp [h2]
    rw [hx]
    refine Ev.step (f := fun k => some false) (fun k => ?_) (Ev.now _)
    rw [minstrelref19_Members.l0, if_pos (by omega), if_pos h0, hn, if_neg h1, if_pos h2]
   ·by_cases h3 : i = 0
    ·rw [if_pos h3, if_neg (by omega), if_neg h2]
     refine Ev.step (fun k => ?_) (hnext n rfl (by omega))
     rw [minstrelref19_Members.l0, if_pos (by omega), if_pos h0, hn, if_neg h1, if_neg h2, if_neg (by omega), e1.out]
    ·have e2 := Aside0.mk (wrap64_in (i - 1) (by omega) (by omega))
     rw [if_neg h3]
     by_cases h4 : n ≤ rd l (i - 1)
     ·rw [if_pos h4]
      refine Ev.step (f := fun k => some false) (fun k => ?_) (Ev.now _)
      rw [minstrelref19_Members.l0, if_pos (by omega), if_pos h0, hn, if_neg h1, if_neg h2, if_pos (by omega), e2.out, if_pos (by omega), if_pos (by omega), if_pos h4]
     ·rw [if_neg h4, if_neg h2]
      refine Ev.step (fun k => ?_) (hnext n rfl (by omega))
      rw [minstrelref19_Members.l0, if_pos (by omega), if_pos h0, hn, if_neg h1, if_neg h2, if_pos (by omega), e2.out, if_pos (by omega), if_pos (by omega), if_neg h4, e1.out]
theorem refMembers_ev (l : List Int) (hl : l.length ≤ 9223372036854775807) : Ev (fun k => minstrelref19_Members.f k l) (memB l) := by
 have := refM_loop l hl l.length 0 (by omega) (by omega) (by omega)
 exact Ev.congr (fun k => by unfold minstrelref19_Members.f; rfl) this
def numC (n : Int) : S26 := ⟨0, n, ⟨#[]⟩, []⟩
theorem wrapU (n : Int) (h0 : 0 < n) (h1 : n ≤ 64) : IntKind.u64.wrap n = n := by
 simp only [IntKind.wrap, IntKind.signed, IntKind.bits, Bool.false_eq_true, if_false]
 exact Int.emod_eq_of_lt (by omega) (by omega)
theorem members_loop (l : List Int) (hl : l.length ≤ 64) (hr : ∀ x ∈ l, 0 < x ∧ x ≤ 64) : ∀ (m : Nat) (i : Int) (acc : List S26), 0 ≤ i → i + m = l.length → acc.length + m ≤ 64 → Ev (fun k => snap_members.l0 k l (l.length : Int) i 2 0 ⟨#[]⟩ acc) (2, 0, ⟨#[]⟩, acc ++ (l.drop i.toNat).map numC)
 | 0, i, acc, h0, hm, ha => by
  have hd : l.drop i.toNat = [] := List.drop_eq_nil_of_le (by omega)
  rw [hd, List.map_nil, List.append_nil]
  refine Ev.step (f := fun k => some (2, 0, ⟨#[]⟩, acc)) (fun k => ?_) (Ev.now _)
  rw [snap_members.l0, if_neg (by omega)]
 | m + 1, i, acc, h0, hm, ha => by
  have e1 := Aside0.mk (wrap64_in (i + 1) (by omega) (by omega))
  have hx := hr (rd l i) (by
   have := drop_rdI l i h0 (by omega)
   exact List.mem_of_mem_drop (by rw [this]; exact List.mem_cons_self))
  rw [drop_rdI l i h0 (by omega), List.map_cons, List.append_cons]
  refine Ev.step (f := fun k => snap_members.l0 k l (l.length : Int) (i + 1) 2 0 ⟨#[]⟩ (acc ++ [numC (rd l i)])) (fun k => ?_) (members_loop l hl hr m (i + 1) (acc ++ [numC (rd l i)]) (by omega) (by omega) (by rw [List.length_append, List.length_singleton]; omega))
  rw [snap_members.l0, if_pos (by omega), if_pos h0, if_pos (by omega), wrapU _ hx.1 hx.2, code_Number.f, Option.bind_some, if_pos (by omega), e1.out]
  rfl
theorem members_ev (l : List Int) (h : memB l = true) : Ev (fun k => snap_members.f k l) (2, 0, ⟨#[]⟩, l.map numC) := by
 obtain ⟨h0, h1, h2⟩ := memB_facts h
 have := members_loop l h1 h2 l.length 0 [] (by omega) (by omega) (by simpa using h1)
 exact Ev.congr (fun k => by unfold snap_members.f; rfl) this
theorem refmembers_loop (l : List Int) (hl : l.length ≤ 64) (hr : ∀ x ∈ l, 0 < x ∧ x ≤ 64) : ∀ (m : Nat) (i : Int) (acc : List S26), 0 ≤ i → i + m = l.length → acc.length + m ≤ 64 → Ev (fun k => minstrelref19_members.l0 k l acc i) (2, 0, ⟨#[]⟩, acc ++ (l.drop i.toNat).map numC)
 | 0, i, acc, h0, hm, ha => by
  have hd : l.drop i.toNat = [] := List.drop_eq_nil_of_le (by omega)
  rw [hd, List.map_nil, List.append_nil]
  refine Ev.step (f := fun k => some (2, 0, ⟨#[]⟩, acc)) (fun k => ?_) (Ev.now _)
  rw [minstrelref19_members.l0, if_neg (by omega)]
  rfl
 | m + 1, i, acc, h0, hm, ha => by
  have e1 := Aside0.mk (wrap64_in (i + 1) (by omega) (by omega))
  have hx := hr (rd l i) (by
   have := drop_rdI l i h0 (by omega)
   exact List.mem_of_mem_drop (by rw [this]; exact List.mem_cons_self))
  rw [drop_rdI l i h0 (by omega), List.map_cons, List.append_cons]
  refine Ev.step (f := fun k => minstrelref19_members.l0 k l (acc ++ [numC (rd l i)]) (i + 1)) (fun k => ?_) (refmembers_loop l hl hr m (i + 1) (acc ++ [numC (rd l i)]) (by omega) (by omega) (by rw [List.length_append, List.length_singleton]; omega))
  rw [minstrelref19_members.l0, if_pos (by omega), if_pos h0, wrapU _ hx.1 hx.2, minstrelref07_Number.f, Option.bind_some, if_pos (by omega), e1.out]
  rfl
theorem refmembers_ev (l : List Int) (h : memB l = true) : Ev (fun k => minstrelref19_members.f k l) (2, 0, ⟨#[]⟩, l.map numC) := by
 obtain ⟨h0, h1, h2⟩ := memB_facts h
 have := refmembers_loop l h1 h2 l.length 0 [] (by omega) (by omega) (by simpa using h1)
 exact Ev.congr (fun k => by unfold minstrelref19_members.f; rfl) this
end Go.Proofs.YtlkaffbgekbcfaaDoor.Pure
end
section
namespace Go.Proofs.YtlkaffbgekbcfaaDoor.Pure
open Go.RowKit Go.Proofs.YtlkaffbgekbcfaaDoor.Pr Go.Proofs.YtlkaffbgekbcfaaDoorW.PrintWords Go.Proofs.YtlkaffbgekbcfaaDoorW.PrintLast Go.Proofs.YtlkaffbgekbcfaaDoorW.PrintMore
def membersC (l : List Int) : S26 := ⟨2, 0, ⟨#[]⟩, l.map numC⟩
def topC (i t : Int) (l : List Int) (s u : S26) : S26 := ⟨2, 0, ⟨#[]⟩, [numC i, numC t, membersC l, s, u]⟩
structure SnapOk (i t : Int) (s u : S26) : Prop where
 wi : (Lit.int .u64 i).wf = true
 wt : (Lit.int .u64 t).wf = true
 ws : ∀ j, wfc j s
 wu : ∀ j, wfc j u
 zs : ∀ j, szc j s
 zu : ∀ j, szc j u
variable {i t : Int} {l : List Int} {s u : S26}
theorem dep_num (n : Int) (k : Nat) : dep (k + 1) (numC n) = true := rfl
theorem dep_members (l : List Int) (k : Nat) : dep (k + 2) (membersC l) = true := by
 rw [dep]
 simp only [List.all_eq_true]
 intro x hx
 obtain ⟨n, _, rfl⟩ := List.mem_map.1 hx
 exact dep_num n k
def saveV (i : Int) (l : List Int) (r : List Int × Int) : List Int × Int :=
 if memB l = true then if i > 4611686018427387904 then ([], 2) else if r.2 = 0 then (if (r.1.length : Int) > 1048320 then ([], 2) else (frameL r.1, 0)) else ([], r.2) else ([], 1)
end Go.Proofs.YtlkaffbgekbcfaaDoor.Pure
end
section
namespace Go.Proofs.YtlkaffbgekbcfaaDoor.Pure
open Go.RowKit Go.Proofs.YtlkaffbgekbcfaaDoor.Pr Go.Proofs.YtlkaffbgekbcfaaDoorW.PrintWords Go.Proofs.YtlkaffbgekbcfaaDoorW.PrintLast Go.Proofs.YtlkaffbgekbcfaaDoorW.PrintMore
variable {i t : Int} {l : List Int} {s u : S26}
theorem sameL_loop (l : List Int) (hl : l.length ≤ 9223372036854775807) (a b c d : Int) (e f : ByteArray) : ∀ (m : Nat) (j : Int), 0 ≤ j → j + m = l.length → Ev (fun k => minstrelref19_Same.l0 k j a b e l c d f l) true
 | 0, j, h0, hm => by
  refine Ev.step (f := fun k => some true) (fun k => ?_) (Ev.now _)
  rw [minstrelref19_Same.l0, if_neg (by omega)]
 | m + 1, j, h0, hm => by
  have e1 := Aside0.mk (wrap64_in (j + 1) (by omega) (by omega))
  refine Ev.step (f := fun k => minstrelref19_Same.l0 k (j + 1) a b e l c d f l) (fun k => ?_) (sameL_loop l hl a b c d e f m (j + 1) (by omega) (by omega))
  rw [minstrelref19_Same.l0, if_pos (by omega), if_pos h0, if_pos (by omega), if_pos rfl, e1.out]
theorem sameL_ev (l : List Int) (hl : l.length ≤ 9223372036854775807) (a b : Int) (e : ByteArray) : Ev (fun k => minstrelref19_Same.f k a b e l a b e l) true := by
 delta minstrelref19_Same.f
 simp only [if_true, bne_self_eq_false]
 apply Ev.step
 ·intro k
  rw [minstrelref19_Same.j0]
 simp only [Bool.false_eq_true, if_false]
 exact sameL_loop l hl _ _ _ _ _ _ l.length 0 (by omega) (by omega)
theorem lives_true : minstrellaw19_lives.f 80 = some true := by kernel_rfl
theorem lives_ev : Ev (fun k => minstrellaw19_lives.f k) true := Ev.of minstrellaw19_lives.mono lives_true
end Go.Proofs.YtlkaffbgekbcfaaDoor.Pure
end
section
namespace Go.Proofs.YtlkaffbgekbcfaaDoor.Pure
open Go.RowKit Go.Proofs.YtlkaffbgekbcfaaDoor.Pr Go.Proofs.YtlkaffbgekbcfaaDoorW.PrintWords Go.Proofs.YtlkaffbgekbcfaaDoorW.PrintLast Go.Proofs.YtlkaffbgekbcfaaDoorW.PrintMore Go.Proofs.YtlkaffbgekbcfaaDoor.Crc
def numAt (x : S26) : Int := if x.f1 ≤ 64 then wrap64 x.f1 else 0
def numsOf (c : S26) : List Int := if c.f0 = 2 then c.f3.map numAt else []
theorem nums_loop (c : S26) (hl : c.f3.length ≤ 1048576) (h2 : c.f0 = 2) : ∀ (m : Nat) (i : Int) (acc : List Int), 0 ≤ i → i + m = c.f3.length → acc.length + m ≤ 1048576 → Ev (fun k => minstrelref19_numbers.l0 k acc i c.f0 c.f1 c.f2 c.f3) (acc ++ (c.f3.drop i.toNat).map numAt)
 | 0, i, acc, h0, hm, ha => by
  have hd : c.f3.drop i.toNat = [] := List.drop_eq_nil_of_le (by omega)
  rw [hd, List.map_nil, List.append_nil]
  refine Ev.step (f := fun k => minstrelref19_numbers.j1 k acc i (decide (i < (c.f3.length : Int))) c.f0 c.f1 c.f2 c.f3) (fun k => ?_) ?_
  ·rw [minstrelref19_numbers.l0, if_pos h2]
  ·rw [decide_eq_false (by omega)]
   refine Ev.step (f := fun k => some acc) (fun k => ?_) (Ev.now _)
   rw [minstrelref19_numbers.j1, if_neg (by decide)]
 | m + 1, i, acc, h0, hm, ha => by
  have e1 := Aside0.mk (wrap64_in (i + 1) (by omega) (by omega))
  have ih := nums_loop c hl h2 m (i + 1) (acc ++ [numAt (rd_T26 c.f3 i)]) (by omega) (by omega) (by rw [List.length_append, List.length_singleton]; omega)
  rw [drop_rd c.f3 i h0 (by omega), List.map_cons, List.append_cons]
  refine Ev.step (f := fun k => minstrelref19_numbers.j1 k acc i (decide (i < (c.f3.length : Int))) c.f0 c.f1 c.f2 c.f3) (fun k => ?_) ?_
  ·rw [minstrelref19_numbers.l0, if_pos h2]
  ·rw [decide_eq_true (show i < (c.f3.length : Int) by omega)]
   refine Ev.step (fun k => ?_) ih
   rw [minstrelref19_numbers.j1, if_pos rfl, if_pos h0, if_pos (by omega)]
   unfold numAt
   by_cases h : (rd_T26 c.f3 i).f1 ≤ 64
   ·rw [if_pos h, if_pos h, if_pos (by omega), e1.out]
   ·rw [if_neg h, if_neg h, if_pos (by omega), e1.out]
theorem numbers_ev (c : S26) (hl : c.f3.length ≤ 1048576) : Ev (fun k => minstrelref19_numbers.f k c.f0 c.f1 c.f2 c.f3) (numsOf c) := by
 unfold numsOf
 by_cases h2 : c.f0 = 2
 ·rw [if_pos h2]
  have := nums_loop c hl h2 c.f3.length 0 [] (by omega) (by omega) (by simpa using hl)
  exact Ev.congr (fun k => by unfold minstrelref19_numbers.f; rfl) this
 ·rw [if_neg h2]
  refine Ev.congr (f := fun k => minstrelref19_numbers.l0 k [] 0 c.f0 c.f1 c.f2 c.f3) (fun k => by unfold minstrelref19_numbers.f; rfl) ?_
  refine Ev.step (f := fun k => minstrelref19_numbers.j1 k [] 0 false c.f0 c.f1 c.f2 c.f3) (fun k => ?_) ?_
  ·rw [minstrelref19_numbers.l0, if_neg h2]
  ·refine Ev.step (f := fun k => some []) (fun k => ?_) (Ev.now _)
   rw [minstrelref19_numbers.j1, if_neg (by decide)]
def readR (acc : List Int) : List S26 → List Int × Bool
 | [] => (acc, memB acc)
 | x :: r => if x.f0 = 0 then if x.f1 > 64 then ([], false) else readR (acc ++ [wrap64 x.f1]) r else ([], false)
theorem readAll_loop (L : List S26) (hl : L.length ≤ 1048576) : ∀ (m : Nat) (i : Int) (acc : List Int), 0 ≤ i → i + m = L.length → acc.length + m ≤ 1048576 → Ev (fun k => snap_read.l0 k acc L (L.length : Int) i) (readR acc (L.drop i.toNat))
 | 0, i, acc, h0, hm, ha => by
  have hd : L.drop i.toNat = [] := List.drop_eq_nil_of_le (by omega)
  rw [hd, readR]
  refine Ev.step (f := fun k => (snap_can.f k acc).bind fun t => some (acc, t)) (fun k => ?_) (Ev.bind (can_ev acc (by omega)) (Ev.now _))
  rw [snap_read.l0, if_neg (by omega)]
 | m + 1, i, acc, h0, hm, ha => by
  have e1 := Aside0.mk (wrap64_in (i + 1) (by omega) (by omega))
  rw [drop_rd L i h0 (by omega), readR]
  by_cases h1 : (rd_T26 L i).f0 = 0
  ·rw [if_pos h1]
   by_cases h2 : (rd_T26 L i).f1 > 64
   ·rw [if_pos h2]
    refine Ev.step (f := fun k => some ([], false)) (fun k => ?_) (Ev.now _)
    rw [snap_read.l0, if_pos (by omega), if_pos h0, if_pos (by omega), if_pos h1, if_pos h2]
   ·rw [if_neg h2]
    refine Ev.step (fun k => ?_) (readAll_loop L hl m (i + 1) (acc ++ [wrap64 (rd_T26 L i).f1]) (by omega) (by omega) (by rw [List.length_append, List.length_singleton]; omega))
    rw [snap_read.l0, if_pos (by omega), if_pos h0, if_pos (by omega), if_pos h1, if_neg h2, if_pos (by omega), e1.out]
  ·rw [if_neg h1]
   refine Ev.step (f := fun k => some ([], false)) (fun k => ?_) (Ev.now _)
   rw [snap_read.l0, if_pos (by omega), if_pos h0, if_pos (by omega), if_neg h1]
def readV (c : S26) : List Int × Bool := if c.f0 = 2 then readR [] c.f3 else ([], false)
theorem readAll_ev (c : S26) (hl : c.f3.length ≤ 1048576) : Ev (fun k => snap_read.f k c.f0 c.f1 c.f2 c.f3) (readV c) := by
 unfold readV
 by_cases h2 : c.f0 = 2
 ·rw [if_pos h2]
  have := readAll_loop c.f3 hl c.f3.length 0 [] (by omega) (by omega) (by simpa using hl)
  exact Ev.congr (fun k => by unfold snap_read.f; rw [if_pos h2]) this
 ·rw [if_neg h2]
  exact Ev.congr (f := fun k => some ([], false)) (fun k => by unfold snap_read.f; rw [if_neg h2]) (Ev.now _)
theorem readR_ok : ∀ (L : List S26) (acc : List Int), (readR acc L).2 = true → (readR acc L).1 = acc ++ L.map numAt ∧ memB (acc ++ L.map numAt) = true ∧ ∀ x ∈ L, x.f0 = 0 ∧ x.f1 ≤ 64
 | [], acc, h => by
  rw [readR] at h ⊢
  rw [List.map_nil, List.append_nil]
  exact ⟨rfl, h, fun x hx => by cases hx⟩
 | x :: r, acc, h => by
  rw [readR] at h ⊢
  by_cases h1 : x.f0 = 0
  ·rw [if_pos h1] at h ⊢
   by_cases h2 : x.f1 > 64
   ·rw [if_pos h2] at h; cases h
   ·rw [if_neg h2] at h ⊢
    obtain ⟨a, b, c⟩ := readR_ok r _ h
    have hn : wrap64 x.f1 = numAt x := by unfold numAt; rw [if_pos (by omega)]
    rw [hn, List.append_assoc] at a b
    rw [hn]
    refine ⟨a, b, fun y hy => ?_⟩
    rcases List.mem_cons.1 hy with rfl | hy
    ·exact ⟨h1, by omega⟩
    ·exact c y hy
  ·rw [if_neg h1] at h; cases h
theorem readV_ok {c : S26} (h : (readV c).2 = true) : c.f0 = 2 ∧ (readV c).1 = numsOf c ∧ memB (numsOf c) = true ∧ ∀ x ∈ c.f3, x.f0 = 0 ∧ x.f1 ≤ 64 := by
 unfold readV at h ⊢
 by_cases h2 : c.f0 = 2
 ·rw [if_pos h2] at h ⊢
  obtain ⟨a, b, d⟩ := readR_ok _ _ h
  rw [List.nil_append] at a b
  unfold numsOf
  rw [if_pos h2]
  exact ⟨h2, a, b, d⟩
 ·rw [if_neg h2] at h; cases h
theorem getD_in {α : Type} {L : List α} {n : Nat} {d : α} (h : n < L.length) : L.getD n d = L[n] := by
 rw [List.getD_eq_getElem?_getD, List.getElem?_eq_getElem h, Option.getD_some]
theorem getD_out {α : Type} {L : List α} {n : Nat} {d : α} (h : L.length ≤ n) : L.getD n d = d := by
 rw [List.getD_eq_getElem?_getD, List.getElem?_eq_none h, Option.getD_none]
def partC (c : S26) (n : Nat) : S26 := if c.f0 = 2 then c.f3.getD n z26 else z26
theorem part_eq (c : S26) (n : Nat) : minstrelref19_part.f c.f0 c.f1 c.f2 c.f3 (n : Int) = some ((partC c n).f0, (partC c n).f1, (partC c n).f2, (partC c n).f3) := by
 unfold minstrelref19_part.f partC
 by_cases h2 : c.f0 = 2
 ·rw [if_pos h2, if_pos h2]
  by_cases hn : (n : Int) ≥ (c.f3.length : Int)
  ·rw [if_pos hn, getD_out (by omega)]
   rfl
  ·have hlt : n < c.f3.length := by omega
   rw [if_neg hn, if_pos (by omega), if_pos (by omega), rd_at _ _ hlt, getD_in hlt]
 ·rw [if_neg h2, if_neg h2]
  rfl
theorem part_all {P : S26 → Prop} {c : S26} (hz : P z26) (h : ∀ x ∈ c.f3, P x) (n : Nat) : P (partC c n) := by
 unfold partC
 by_cases h2 : c.f0 = 2
 ·rw [if_pos h2]
  by_cases hn : n < c.f3.length
  ·rw [getD_in hn]
   exact h _ (List.getElem_mem hn)
  ·rw [getD_out (by omega)]
   exact hz
 ·rw [if_neg h2]
  exact hz
end Go.Proofs.YtlkaffbgekbcfaaDoor.Pure
end
section
namespace Go.Proofs.YtlkaffbgekbcfaaDoor.Pure
open Go.RowKit Go.Proofs.YtlkaffbgekbcfaaDoor.Pr Go.Proofs.YtlkaffbgekbcfaaDoorW.PrintWords Go.Proofs.YtlkaffbgekbcfaaDoorW.PrintLast Go.Proofs.YtlkaffbgekbcfaaDoorW.PrintMore
abbrev C26 := S26
abbrev EnT := Int × Int × ByteArray × List Int × Int
abbrev EcT := Int × Int × ByteArray × List C26 × Int
def textC (s : ByteArray) : C26 := ⟨1, 0, s, []⟩
def entV (t n : Int) (s : ByteArray) (l : List Int) : EcT :=
 if n = 0 then (2, 0, ⟨#[]⟩, [numC t, numC 0], 0)
 else if n = 1 then if (s.size : Int) > 65536 then (0, 0, ⟨#[]⟩, [], 2) else (2, 0, ⟨#[]⟩, [numC t, numC 1, textC s], 0)
 else if n = 2 then if memB l = true then (2, 0, ⟨#[]⟩, [numC t, numC 2, membersC l], 0) else (0, 0, ⟨#[]⟩, [], 1)
 else (0, 0, ⟨#[]⟩, [], 1)
theorem snapEnt_ev (t n : Int) (s : ByteArray) (l : List Int) (hl : l.length ≤ 9223372036854775807) : Ev (fun k => snap_EntryCell.f k t n s l) (entV t n s l) := by
 delta snap_EntryCell.f entV
 simp only [code_Number.f, code_Text.f, Option.bind_some, List.length_cons, List.length_nil, List.cons_append, List.nil_append]
 by_cases h0 : n = 0
 ·subst h0
  simp only [if_true]
  exact Ev.now _
 ·simp only [if_neg h0]
  by_cases h1 : n = 1
  ·subst h1
   simp only [if_true]
   by_cases hs : (s.size : Int) > 65536
   ·simp only [if_pos hs]; exact Ev.now _
   ·simp only [if_neg hs, if_pos (show 0 + 1 + 1 < 2513169434916 by omega)]; exact Ev.now _
  ·simp only [if_neg h1]
   by_cases h2 : n = 2
   ·subst h2
    simp only [if_true]
    refine Ev.bind (can_ev l hl) ?_
    by_cases hm : memB l = true
    ·simp only [if_pos hm]
     refine Ev.bind (members_ev l hm) ?_
     simp only [if_pos (show 0 + 1 + 1 < 2513169434916 by omega)]
     exact Ev.now _
    ·simp only [if_neg hm]; exact Ev.now _
   ·simp only [if_neg h2]; exact Ev.now _
theorem refEnt_ev (t n : Int) (s : ByteArray) (l : List Int) (hl : l.length ≤ 9223372036854775807) : Ev (fun k => minstrelref19_EntryCell.f k t n s l) (entV t n s l) := by
 delta minstrelref19_EntryCell.f
 simp only [minstrelref07_Number.f, Option.bind_some]
 have bad : ∀ L, Ev (fun k => minstrelref19_EntryCell.j0 k L true t n s l) ((0, 0, ⟨#[]⟩, [], 1) : EcT) := fun L => by
  apply Ev.step
  ·intro k
   rw [minstrelref19_EntryCell.j0]
  simp only [if_true]
  exact Ev.now _
 by_cases hlt : n < 0
 ·simp only [if_pos hlt, entV, if_neg (show ¬ n = 0 by omega), if_neg (show ¬ n = 1 by omega), if_neg (show ¬ n = 2 by omega)]
  exact bad _
 ·simp only [if_neg hlt]
  by_cases hgt : n > 2
  ·simp only [if_pos hgt, entV, if_neg (show ¬ n = 0 by omega), if_neg (show ¬ n = 1 by omega), if_neg (show ¬ n = 2 by omega)]
   exact bad _
  ·simp only [if_neg hgt]
   by_cases h2 : n = 2
   ·subst h2
    simp only [if_true]
    refine Ev.bind (refMembers_ev l hl) ?_
    by_cases hm : memB l = true
    ·simp only [hm, Bool.not_true]
     apply Ev.step
     ·intro k
      rw [minstrelref19_EntryCell.j0]
     simp only [Bool.false_eq_true, if_false, if_neg (show ¬ (2 : Int) = 1 by decide)]
     apply Ev.step
     ·intro k
      rw [minstrelref19_EntryCell.j1]
     simp only [if_true]
     refine Ev.bind (refmembers_ev l hm) ?_
     simp only [List.length_cons, List.length_nil, if_pos (show 0 + 1 + 1 < 2513169434916 by omega), minstrelref07_List.f, Option.bind_some, entV, hm, if_true, if_neg (show ¬ (2 : Int) = 0 by decide), if_neg (show ¬ (2 : Int) = 1 by decide)]
     exact Ev.now _
    ·simp only [Bool.not_eq_true] at hm
     simp only [hm, Bool.not_false]
     simp only [entV, hm, Bool.false_eq_true, if_false, if_true, if_neg (show ¬ (2 : Int) = 0 by decide), if_neg (show ¬ (2 : Int) = 1 by decide)]
     exact bad _
   ·simp only [if_neg h2]
    have hu : IntKind.u64.wrap n = n := by
     unfold IntKind.wrap
     simp [IntKind.bits, IntKind.signed]
     omega
    rw [hu]
    apply Ev.step
    ·intro k
     rw [minstrelref19_EntryCell.j0]
    simp only [Bool.false_eq_true, if_false]
    by_cases h1 : n = 1
    ·subst h1
     simp only [if_true, entV, if_neg (show ¬ (1 : Int) = 0 by decide)]
     by_cases hs : (s.size : Int) > 65536
     ·simp only [if_pos hs]; exact Ev.now _
     ·simp only [if_neg hs, minstrelref07_Text.f, Option.bind_some, List.length_cons, List.length_nil, if_pos (show 0 + 1 + 1 < 2513169434916 by omega)]
      apply Ev.step
      ·intro k
       rw [minstrelref19_EntryCell.j1]
      simp only [if_neg (show ¬ (1 : Int) = 2 by decide), minstrelref07_List.f, Option.bind_some]
      exact Ev.now _
    ·have h0 : n = 0 := by omega
     subst h0
     simp only [if_neg (show ¬ (0 : Int) = 1 by decide)]
     apply Ev.step
     ·intro k
      rw [minstrelref19_EntryCell.j1]
     simp only [if_neg (show ¬ (0 : Int) = 2 by decide), minstrelref07_List.f, Option.bind_some, entV, if_true]
     exact Ev.now _
def fromV (c : C26) : EnT :=
 if c.f0 = 2 ∧ 2 ≤ c.f3.length ∧ (partC c 0).f0 = 0 ∧ (partC c 1).f0 = 0 ∧ (partC c 1).f1 ≤ 2 then
  if (partC c 1).f1 = 0 then if c.f3.length = 2 then ((partC c 0).f1, 0, ⟨#[]⟩, [], 0) else (0, 0, ⟨#[]⟩, [], 4)
  else if c.f3.length = 3 then
   if (partC c 1).f1 = 1 then if (partC c 2).f0 = 1 ∧ ((partC c 2).f2.size : Int) ≤ 65536 then ((partC c 0).f1, 1, (partC c 2).f2, [], 0) else (0, 0, ⟨#[]⟩, [], 4)
   else if (readV (partC c 2)).2 = true then ((partC c 0).f1, 2, ⟨#[]⟩, (readV (partC c 2)).1, 0) else (0, 0, ⟨#[]⟩, [], 4)
  else (0, 0, ⟨#[]⟩, [], 4)
 else (0, 0, ⟨#[]⟩, [], 4)
theorem rd_partE {c : C26} (h2 : c.f0 = 2) {n : Nat} (h : n < c.f3.length) : rd_T26 c.f3 (n : Int) = partC c n := by
 unfold partC
 rw [if_pos h2, rd_at _ _ h, getD_in h]
theorem snapFrom_ev (c : C26) (h0 : 0 ≤ (partC c 1).f1) (hl : (partC c 2).f3.length ≤ 1048576) : Ev (fun k => snap_FromEntry.f k c.f0 c.f1 c.f2 c.f3) (fromV c) := by
 have bad : Ev (fun k => snap_FromEntry.j0 k true c.f0 c.f1 c.f2 c.f3) ((0, 0, ⟨#[]⟩, [], 4) : EnT) := by
  apply Ev.step
  ·intro k
   rw [snap_FromEntry.j0]
  simp only [if_true]
  exact Ev.now _
 delta snap_FromEntry.f
 unfold fromV
 by_cases h2 : c.f0 = 2
 ·simp only [if_pos h2]
  by_cases hlen : (c.f3.length : Int) < 2
  ·simp only [if_pos hlen, if_neg (show ¬ (c.f0 = 2 ∧ 2 ≤ c.f3.length ∧ (partC c 0).f0 = 0 ∧ (partC c 1).f0 = 0 ∧ (partC c 1).f1 ≤ 2) from fun h => by omega)]
   exact bad
  ·have r0 : rd_T26 c.f3 0 = partC c 0 := rd_partE h2 (n := 0) (by omega)
   have r1 : rd_T26 c.f3 1 = partC c 1 := rd_partE h2 (n := 1) (by omega)
   simp only [if_neg hlen, if_pos (show 0 < (c.f3.length : Int) by omega), if_pos (show 1 < (c.f3.length : Int) by omega), r0, r1]
   by_cases h3 : (partC c 0).f0 = 0
   ·simp only [if_pos h3]
    by_cases h4 : (partC c 1).f0 = 0
    ·simp only [if_pos h4]
     by_cases h5 : (partC c 1).f1 > 2
     ·simp only [decide_eq_true h5, if_neg (show ¬ (c.f0 = 2 ∧ 2 ≤ c.f3.length ∧ (partC c 0).f0 = 0 ∧ (partC c 1).f0 = 0 ∧ (partC c 1).f1 ≤ 2) from fun h => by omega)]
      exact bad
     ·simp only [decide_eq_false h5, if_pos (show (c.f0 = 2 ∧ 2 ≤ c.f3.length ∧ (partC c 0).f0 = 0 ∧ (partC c 1).f0 = 0 ∧ (partC c 1).f1 ≤ 2) from ⟨h2, by omega, h3, h4, by omega⟩)]
      have hw : wrap64 (partC c 1).f1 = (partC c 1).f1 := wrap64_in _ (by omega) (by omega)
      apply Ev.step
      ·intro k
       rw [snap_FromEntry.j0]
      simp only [Bool.false_eq_true, if_false, if_pos (show 0 < (c.f3.length : Int) by omega), if_pos (show 1 < (c.f3.length : Int) by omega), r0, r1, hw]
      by_cases h6 : (partC c 1).f1 = 0
      ·simp only [if_pos h6]
       by_cases h7 : c.f3.length = 2
       ·simp only [if_pos (show (c.f3.length : Int) = 2 by omega), if_pos h7, h6]
        exact Ev.now _
       ·simp only [if_neg (show ¬ (c.f3.length : Int) = 2 by omega), if_neg h7]
        exact Ev.now _
      ·simp only [if_neg h6]
       by_cases h7 : c.f3.length = 3
       ·have r2 : rd_T26 c.f3 2 = partC c 2 := rd_partE h2 (n := 2) (by omega)
        simp only [if_pos (show (c.f3.length : Int) = 3 by omega), if_pos h7, r2, if_pos (show 2 < (c.f3.length : Int) by omega)]
        by_cases h8 : (partC c 1).f1 = 1
        ·simp only [if_pos h8]
         by_cases h9 : (partC c 2).f0 = 1
         ·simp only [if_pos h9, h9, true_and]
          by_cases h10 : ((partC c 2).f2.size : Int) ≤ 65536
          ·simp only [if_pos h10, h8]; exact Ev.now _
          ·simp only [if_neg h10]; exact Ev.now _
         ·simp only [if_neg h9, h9, false_and, if_false]; exact Ev.now _
        ·have h11 : (partC c 1).f1 = 2 := by omega
         simp only [if_neg h8]
         refine Ev.bind (readAll_ev _ hl) ?_
         by_cases h12 : (readV (partC c 2)).2 = true
         ·simp only [if_pos h12, h11]; exact Ev.now _
         ·simp only [if_neg h12]; exact Ev.now _
       ·simp only [if_neg (show ¬ (c.f3.length : Int) = 3 by omega), if_neg h7]
        exact Ev.now _
    ·simp only [if_neg h4, if_neg (show ¬ (c.f0 = 2 ∧ 2 ≤ c.f3.length ∧ (partC c 0).f0 = 0 ∧ (partC c 1).f0 = 0 ∧ (partC c 1).f1 ≤ 2) from fun h => h4 h.2.2.2.1)]
     exact bad
   ·simp only [if_neg h3, if_neg (show ¬ (c.f0 = 2 ∧ 2 ≤ c.f3.length ∧ (partC c 0).f0 = 0 ∧ (partC c 1).f0 = 0 ∧ (partC c 1).f1 ≤ 2) from fun h => h3 h.2.2.1)]
    exact bad
 ·simp only [if_neg h2, if_neg (show ¬ (c.f0 = 2 ∧ 2 ≤ c.f3.length ∧ (partC c 0).f0 = 0 ∧ (partC c 1).f0 = 0 ∧ (partC c 1).f1 ≤ 2) from fun h => h2 h.1)]
  exact bad
end Go.Proofs.YtlkaffbgekbcfaaDoor.Pure
end
section
namespace Go.Proofs.YtlkaffbgekbcfaaDoor.Pure
open Go.RowKit Go.Proofs.YtlkaffbgekbcfaaDoor.Pr Go.Proofs.YtlkaffbgekbcfaaDoorW.PrintWords Go.Proofs.YtlkaffbgekbcfaaDoorW.PrintLast Go.Proofs.YtlkaffbgekbcfaaDoorW.PrintMore
theorem sameC_succ (k : Nat) (a b : C26) : sameC (k + 1) a b = (if a.f0 = b.f0 then if a.f0 = 0 then some (a.f1 == b.f1) else if a.f0 = 1 then some (a.f2.toList == b.f2.toList) else if a.f0 = 2 then if a.f3.length = b.f3.length then allC (sameC k) a.f3 b.f3 else some false else some true else some false) := by rw [sameC]
theorem same_numC (k : Nat) (t : Int) (p : C26) : sameC (k + 1) (numC t) p = some (decide (p.f0 = 0 ∧ p.f1 = t)) := by
 rw [sameC_succ]
 by_cases h : (0 : Int) = p.f0
 ·rw [if_pos (show (numC t).f0 = p.f0 from h), if_pos (show (numC t).f0 = 0 from rfl)]
  by_cases h1 : p.f1 = t
  ·rw [decide_eq_true ⟨h.symm, h1⟩, h1]
   exact congrArg some (beq_self_eq_true t)
  ·rw [decide_eq_false (fun h2 => h1 h2.2)]
   exact congrArg some (beq_eq_false_iff_ne.mpr (fun h2 => h1 h2.symm))
 ·rw [if_neg (show ¬ (numC t).f0 = p.f0 from h), decide_eq_false (fun h2 => h h2.1.symm)]
theorem same_textC (k : Nat) (p : C26) : sameC (k + 1) (textC p.f2) p = some (decide (p.f0 = 1)) := by
 rw [sameC_succ]
 by_cases h : (1 : Int) = p.f0
 ·rw [if_pos (show (textC p.f2).f0 = p.f0 from h), if_neg (show ¬ (textC p.f2).f0 = 0 from fun h => by cases h), if_pos (show (textC p.f2).f0 = 1 from rfl), decide_eq_true h.symm]
  exact congrArg some (beq_self_eq_true p.f2.toList)
 ·rw [if_neg (show ¬ (textC p.f2).f0 = p.f0 from h), decide_eq_false (fun h2 => h h2.symm)]
theorem same_list (k : Nat) (s : ByteArray) (L : List C26) (c : C26) (h2 : c.f0 = 2) : sameC (k + 1) (⟨2, 0, s, L⟩ : C26) c = (if L.length = c.f3.length then allC (sameC k) L c.f3 else some false) := by
 rw [sameC_succ]
 rw [if_pos (show (⟨2, 0, s, L⟩ : C26).f0 = c.f0 from h2.symm), if_neg (show ¬ (⟨2, 0, s, L⟩ : C26).f0 = 0 from fun h => by cases h), if_neg (show ¬ (⟨2, 0, s, L⟩ : C26).f0 = 1 from fun h => by cases h), if_pos (show (⟨2, 0, s, L⟩ : C26).f0 = 2 from rfl)]
theorem allC_nums (k : Nat) : ∀ M : List C26, allC (sameC (k + 1)) ((M.map numAt).map numC) M = some (M.all fun x => decide (x.f0 = 0 ∧ x.f1 = numAt x))
 | [] => rfl
 | x :: M => by
  simp only [List.map_cons, allC, same_numC, Option.bind_some, List.all_cons]
  by_cases h : x.f0 = 0 ∧ x.f1 = numAt x
  ·rw [decide_eq_true h, if_pos rfl, Bool.true_and]
   exact allC_nums k M
  ·rw [decide_eq_false h, if_neg (by decide), Bool.false_and]
theorem same_members (k : Nat) (p : C26) (h2 : p.f0 = 2) : sameC (k + 2) (membersC (numsOf p)) p = some (p.f3.all fun x => decide (x.f0 = 0 ∧ x.f1 = numAt x)) := by
 show sameC (k + 1 + 1) (⟨2, 0, ⟨#[]⟩, (numsOf p).map numC⟩ : C26) p = _
 rw [same_list _ _ _ _ h2]
 have hn : numsOf p = p.f3.map numAt := by unfold numsOf; rw [if_pos h2]
 rw [hn, if_pos (by rw [List.length_map, List.length_map])]
 exact allC_nums k p.f3
theorem same_off (k : Nat) (s : ByteArray) (L : List C26) (c : C26) (h : ¬ (c.f0 = 2 ∧ L.length = c.f3.length)) : sameC (k + 1) (⟨2, 0, s, L⟩ : C26) c = some false := by
 by_cases h2 : c.f0 = 2
 ·rw [same_list _ _ _ _ h2, if_neg (fun hl => h ⟨h2, hl⟩)]
 ·rw [sameC_succ, if_neg (show ¬ (⟨2, 0, s, L⟩ : C26).f0 = c.f0 from fun e => h2 e.symm)]
theorem same_two (k : Nat) (a b c : C26) (h2 : c.f0 = 2) (hl : c.f3.length = 2) : sameC (k + 1) (⟨2, 0, ⟨#[]⟩, [a, b]⟩ : C26) c = (sameC k a (partC c 0)).bind fun r => if r = true then (sameC k b (partC c 1)).bind fun r => if r = true then some true else some false else some false := by
 obtain ⟨x, y, h⟩ : ∃ x y, c.f3 = [x, y] := by
  match c.f3, hl with
  | [x, y], _ => exact ⟨x, y, rfl⟩
 have e0 : partC c 0 = x := by unfold partC; rw [if_pos h2, h]; rfl
 have e1 : partC c 1 = y := by unfold partC; rw [if_pos h2, h]; rfl
 rw [same_list _ _ _ _ h2, h, if_pos (by rfl), e0, e1]
 rfl
theorem same_three (k : Nat) (a b d c : C26) (h2 : c.f0 = 2) (hl : c.f3.length = 3) : sameC (k + 1) (⟨2, 0, ⟨#[]⟩, [a, b, d]⟩ : C26) c = (sameC k a (partC c 0)).bind fun r => if r = true then (sameC k b (partC c 1)).bind fun r => if r = true then (sameC k d (partC c 2)).bind fun r => if r = true then some true else some false else some false else some false := by
 obtain ⟨x, y, z, h⟩ : ∃ x y z, c.f3 = [x, y, z] := by
  match c.f3, hl with
  | [x, y, z], _ => exact ⟨x, y, z, rfl⟩
 have e0 : partC c 0 = x := by unfold partC; rw [if_pos h2, h]; rfl
 have e1 : partC c 1 = y := by unfold partC; rw [if_pos h2, h]; rfl
 have e2 : partC c 2 = z := by unfold partC; rw [if_pos h2, h]; rfl
 rw [same_list _ _ _ _ h2, h, if_pos (by rfl), e0, e1, e2]
 rfl
def cellOf (e : EcT) : C26 := ⟨e.1, e.2.1, e.2.2.1, e.2.2.2.1⟩
def errE : EnT := (0, 0, ⟨#[]⟩, [], 4)
theorem len_num (t : Int) : ∀ j, len j (numC t)
 | 0 => trivial
 | j + 1 => ⟨by simp [numC], fun x hx => by cases hx⟩
theorem len_text (s : ByteArray) : ∀ j, len j (textC s)
 | 0 => trivial
 | j + 1 => ⟨by simp [textC], fun x hx => by cases hx⟩
theorem len_members (l : List Int) (hl : l.length ≤ 9223372036854775807) : ∀ j, len j (membersC l)
 | 0 => trivial
 | j + 1 => ⟨by show (l.map numC).length ≤ _; rw [List.length_map]; exact hl, fun x hx => by
  obtain ⟨n, _, rfl⟩ := List.mem_map.1 hx
  exact len_num n j⟩
theorem len_list (s : ByteArray) (L : List C26) (hl : L.length ≤ 3) (h : ∀ x ∈ L, ∀ j, len j x) : ∀ j, len j (⟨2, 0, s, L⟩ : C26)
 | 0 => trivial
 | j + 1 => ⟨by show L.length ≤ _; omega, fun x hx => h x hx j⟩
theorem ent_good (t n : Int) (s : ByteArray) (l : List Int) (hl : l.length ≤ 9223372036854775807) : dep 3 (cellOf (entV t n s l)) = true ∧ ∀ j, len j (cellOf (entV t n s l)) := by
 unfold entV
 have hz : dep 3 (cellOf ((0, 0, ⟨#[]⟩, [], 1) : EcT)) = true ∧ ∀ j, len j (cellOf ((0, 0, ⟨#[]⟩, [], 1) : EcT)) := ⟨rfl, fun j => by
  cases j with
  | zero => trivial
  | succ j => exact ⟨Nat.zero_le _, fun x hx => by cases hx⟩⟩
 split
 ·refine ⟨rfl, len_list _ _ (by simp) fun x hx => ?_⟩
  simp only [List.mem_cons, List.not_mem_nil, or_false] at hx
  rcases hx with rfl | rfl <;> exact len_num _
 ·split
  ·split
   ·exact hz
   ·refine ⟨rfl, len_list _ _ (by simp) fun x hx => ?_⟩
    simp only [List.mem_cons, List.not_mem_nil, or_false] at hx
    rcases hx with rfl | rfl | rfl
    ·exact len_num _
    ·exact len_num _
    ·exact len_text _
  ·split
   ·split
    ·refine ⟨?_, len_list _ _ (by simp) fun x hx => ?_⟩
     ·show ([numC t, numC 2, membersC l]).all (dep 2) = true
      simp only [List.all_cons, List.all_nil, dep_members l 0, Bool.and_true]
      rfl
     ·simp only [List.mem_cons, List.not_mem_nil, or_false] at hx
      rcases hx with rfl | rfl | rfl
      ·exact len_num _
      ·exact len_num _
      ·exact len_members l hl
    ·exact hz
   ·exact hz
theorem j2_ev (c : C26) (t n : Int) (s : ByteArray) (l : List Int) (hl : l.length ≤ 9223372036854775807) (b : Bool) (h : (entV t n s l).2.2.2.2 = 0 → sameC 3 (cellOf (entV t n s l)) c = some b) :
  Ev (fun k => minstrelref19_FromEntry.j2 k c.f0 c.f1 c.f2 c.f3 t n s l) (if (entV t n s l).2.2.2.2 = 0 then if b = true then (t, n, s, l, 0) else errE else errE) := by
 apply Ev.step
 ·intro k
  rw [minstrelref19_FromEntry.j2]
 refine Ev.bind (refEnt_ev t n s l hl) ?_
 by_cases h0 : (entV t n s l).2.2.2.2 = 0
 ·simp only [if_pos h0]
  have hs := same_eq 3 (cellOf (entV t n s l)) c b ((ent_good t n s l hl).2 3) (h h0)
  refine Ev.bind hs ?_
  by_cases hb : b = true
  ·simp only [if_pos hb]; exact Ev.now _
  ·simp only [if_neg hb]; exact Ev.now _
 ·simp only [if_neg h0]
  exact Ev.now _
theorem readR_all : ∀ (M : List C26) (acc : List Int), (∀ x ∈ M, x.f0 = 0 ∧ 0 ≤ x.f1 ∧ x.f1 ≤ 64) → readR acc M = (acc ++ M.map numAt, memB (acc ++ M.map numAt))
 | [], acc, h => by rw [readR, List.map_nil, List.append_nil]
 | x :: M, acc, h => by
  obtain ⟨h0, h1, h2⟩ := h x (List.mem_cons_self ..)
  rw [readR, if_pos h0, if_neg (by omega), readR_all M _ (fun y hy => h y (List.mem_cons_of_mem _ hy))]
  have hn : wrap64 x.f1 = numAt x := by unfold numAt; rw [if_pos h2]
  rw [hn, List.map_cons, List.append_assoc]
  rfl
theorem readV_iff {p : C26} (hw : ∀ x ∈ p.f3, 0 ≤ x.f1) : (readV p).2 = true ↔ p.f0 = 2 ∧ memB (numsOf p) = true ∧ (p.f3.all fun x => decide (x.f0 = 0 ∧ x.f1 = numAt x)) = true := by
 constructor
 ·intro h
  obtain ⟨a, _, c, d⟩ := readV_ok h
  refine ⟨a, c, List.all_eq_true.2 fun x hx => decide_eq_true ⟨(d x hx).1, ?_⟩⟩
  have h1 := (d x hx).2
  have h0 := hw x hx
  unfold numAt
  rw [if_pos h1, wrap64_in _ (by omega) (by omega)]
 ·rintro ⟨a, c, d⟩
  have hn : numsOf p = p.f3.map numAt := by unfold numsOf; rw [if_pos a]
  have hall : ∀ x ∈ p.f3, x.f0 = 0 ∧ 0 ≤ x.f1 ∧ x.f1 ≤ 64 := fun x hx => by
   have h1 := of_decide_eq_true (List.all_eq_true.1 d x hx)
   have h2 := (memB_facts c).2.2 (numAt x) (by rw [hn]; exact List.mem_map_of_mem hx)
   exact ⟨h1.1, hw x hx, by omega⟩
  unfold readV
  rw [if_pos a, readR_all _ _ hall, List.nil_append, ← hn]
  exact c
theorem refFrom_ev (c : C26) (h0 : 0 ≤ (partC c 1).f1) (hl : (partC c 2).f3.length ≤ 1048576) (hw : ∀ x ∈ (partC c 2).f3, 0 ≤ x.f1) : Ev (fun k => minstrelref19_FromEntry.f k c.f0 c.f1 c.f2 c.f3) (fromV c) := by
 have p0 : minstrelref19_part.f c.f0 c.f1 c.f2 c.f3 0 = _ := part_eq c 0
 have p1 : minstrelref19_part.f c.f0 c.f1 c.f2 c.f3 1 = _ := part_eq c 1
 have p2 : minstrelref19_part.f c.f0 c.f1 c.f2 c.f3 2 = _ := part_eq c 2
 delta minstrelref19_FromEntry.f
 simp only [p0, p1, Option.bind_some]
 have st0 : ∀ (t n : Int) (s : ByteArray) (V : EnT), ¬ n = 1 → Ev (fun k => minstrelref19_FromEntry.j1 k c.f0 c.f1 c.f2 c.f3 t n s) V → Ev (fun k => minstrelref19_FromEntry.j0 k c.f0 c.f1 c.f2 c.f3 t n s) V := fun t n s V hn h => by
  apply Ev.step
  ·intro k
   rw [minstrelref19_FromEntry.j0]
  simp only [if_neg hn]
  exact h
 have st1 : ∀ (t n : Int) (s : ByteArray) (V : EnT), ¬ n = 2 → Ev (fun k => minstrelref19_FromEntry.j2 k c.f0 c.f1 c.f2 c.f3 t n s []) V → Ev (fun k => minstrelref19_FromEntry.j1 k c.f0 c.f1 c.f2 c.f3 t n s) V := fun t n s V hn h => by
  apply Ev.step
  ·intro k
   rw [minstrelref19_FromEntry.j1]
  simp only [if_neg hn]
  exact h
 by_cases h1 : (partC c 1).f1 ≤ 2
 ·simp only [if_pos h1]
  have hwr : wrap64 (partC c 1).f1 = (partC c 1).f1 := wrap64_in _ (by omega) (by omega)
  rw [hwr]
  by_cases n1 : (partC c 1).f1 = 1
  ·
   rw [n1]
   apply Ev.step
   ·intro k
    rw [minstrelref19_FromEntry.j0]
   simp only [if_true, p2, Option.bind_some]
   refine st1 _ _ _ _ (by decide) ?_
   by_cases hg : c.f0 = 2 ∧ c.f3.length = 3
   ·obtain ⟨g2, g3⟩ := hg
    have key := j2_ev c (partC c 0).f1 1 (partC c 2).f2 [] (by simp) (decide ((partC c 0).f0 = 0) && (decide ((partC c 1).f0 = 0) && decide ((partC c 2).f0 = 1))) (fun he => by
     have hc : cellOf (entV (partC c 0).f1 1 (partC c 2).f2 []) = ⟨2, 0, ⟨#[]⟩, [numC (partC c 0).f1, numC 1, textC (partC c 2).f2]⟩ := by
      unfold entV at he ⊢
      rw [if_neg (by decide), if_pos rfl] at he ⊢
      split at he
      ·exact absurd he (by decide)
      ·rw [if_neg (by assumption)]; rfl
     rw [hc, same_three 2 _ _ _ c g2 g3, same_numC, same_numC, same_textC, n1]
     simp only [and_true, Option.bind_some]
     by_cases q0 : (partC c 0).f0 = 0 <;> by_cases q1 : (partC c 1).f0 = 0 <;> by_cases q2 : (partC c 2).f0 = 1 <;> simp [q0, q1, q2])
    have hV : fromV c = (if (entV (partC c 0).f1 1 (partC c 2).f2 []).2.2.2.2 = 0 then if (decide ((partC c 0).f0 = 0) && (decide ((partC c 1).f0 = 0) && decide ((partC c 2).f0 = 1))) = true then ((partC c 0).f1, 1, (partC c 2).f2, [], 0) else errE else errE) := by
     unfold fromV entV errE
     rw [n1, if_neg (show ¬ (1 : Int) = 0 by decide), if_pos rfl, if_neg (show ¬ (1 : Int) = 0 by decide), if_pos g3, if_pos rfl]
     by_cases q0 : (partC c 0).f0 = 0
     ·by_cases q1 : (partC c 1).f0 = 0
      ·rw [if_pos ⟨g2, by omega, q0, q1, by decide⟩]
       by_cases q2 : (partC c 2).f0 = 1
       ·by_cases q3 : ((partC c 2).f2.size : Int) > 65536
        ·rw [if_pos q3, if_neg (show ¬ ((partC c 2).f0 = 1 ∧ ((partC c 2).f2.size : Int) ≤ 65536) from fun h => by omega)]
         rfl
        ·rw [if_neg q3, if_pos ⟨q2, by omega⟩]
         simp [q0, q1, q2]
       ·rw [if_neg (show ¬ ((partC c 2).f0 = 1 ∧ ((partC c 2).f2.size : Int) ≤ 65536) from fun h => q2 h.1)]
        simp [q2]
      ·rw [if_neg (show ¬ (c.f0 = 2 ∧ 2 ≤ c.f3.length ∧ (partC c 0).f0 = 0 ∧ (partC c 1).f0 = 0 ∧ (1 : Int) ≤ 2) from fun h => q1 h.2.2.2.1)]
       simp [q1]
     ·rw [if_neg (show ¬ (c.f0 = 2 ∧ 2 ≤ c.f3.length ∧ (partC c 0).f0 = 0 ∧ (partC c 1).f0 = 0 ∧ (1 : Int) ≤ 2) from fun h => q0 h.2.2.1)]
      simp [q0]
    rw [hV]
    exact key
   ·have key := j2_ev c (partC c 0).f1 1 (partC c 2).f2 [] (by simp) false (fun he => by
     have hc : cellOf (entV (partC c 0).f1 1 (partC c 2).f2 []) = ⟨2, 0, ⟨#[]⟩, [numC (partC c 0).f1, numC 1, textC (partC c 2).f2]⟩ := by
      unfold entV at he ⊢
      rw [if_neg (by decide), if_pos rfl] at he ⊢
      split at he
      ·exact absurd he (by decide)
      ·rw [if_neg (by assumption)]; rfl
     rw [hc]
     exact same_off 2 _ _ c (fun h => hg ⟨h.1, h.2.symm⟩))
    have hV : fromV c = errE := by
     unfold fromV errE
     by_cases g2 : c.f0 = 2
     ·have g3 : ¬ c.f3.length = 3 := fun h => hg ⟨g2, h⟩
      rw [n1, if_neg (show ¬ (1 : Int) = 0 by decide), if_neg g3]
      split <;> rfl
     ·rw [if_neg (fun h => g2 h.1)]
    rw [hV]
    simp only [Bool.false_eq_true, if_false] at key
    split at key <;> exact key
  ·refine st0 _ _ _ _ n1 ?_
   by_cases n2 : (partC c 1).f1 = 2
   ·
    rw [n2]
    apply Ev.step
    ·intro k
     rw [minstrelref19_FromEntry.j1]
    simp only [if_true, p2, Option.bind_some]
    refine Ev.bind (numbers_ev (partC c 2) hl) ?_
    have hnl : (numsOf (partC c 2)).length ≤ 9223372036854775807 := by
     unfold numsOf
     split
     ·rw [List.length_map]; omega
     ·exact Nat.zero_le _
    have hce : (entV (partC c 0).f1 2 ⟨#[]⟩ (numsOf (partC c 2))).2.2.2.2 = 0 → memB (numsOf (partC c 2)) = true ∧ cellOf (entV (partC c 0).f1 2 ⟨#[]⟩ (numsOf (partC c 2))) = ⟨2, 0, ⟨#[]⟩, [numC (partC c 0).f1, numC 2, membersC (numsOf (partC c 2))]⟩ := fun he => by
     unfold entV at he ⊢
     rw [if_neg (by decide), if_neg (by decide), if_pos rfl] at he ⊢
     by_cases hm : memB (numsOf (partC c 2)) = true
     ·rw [if_pos hm]; exact ⟨hm, rfl⟩
     ·rw [if_neg hm] at he; exact absurd he (by decide)
    have hiff := readV_iff hw
    have hval : (readV (partC c 2)).2 = true → (readV (partC c 2)).1 = numsOf (partC c 2) := fun h => (readV_ok h).2.1
    by_cases hg : c.f0 = 2 ∧ c.f3.length = 3 ∧ (partC c 2).f0 = 2
    ·obtain ⟨g2, g3, g4⟩ := hg
     have key := j2_ev c (partC c 0).f1 2 ⟨#[]⟩ (numsOf (partC c 2)) hnl (decide ((partC c 0).f0 = 0) && (decide ((partC c 1).f0 = 0) && ((partC c 2).f3.all fun x => decide (x.f0 = 0 ∧ x.f1 = numAt x)))) (fun he => by
      rw [(hce he).2, same_three 2 _ _ _ c g2 g3, same_numC, same_numC, same_members 0 _ g4, n2]
      simp only [and_true, Option.bind_some]
      generalize ((partC c 2).f3.all fun x => decide (x.f0 = 0 ∧ x.f1 = numAt x)) = q2
      by_cases q0 : (partC c 0).f0 = 0 <;> by_cases q1 : (partC c 1).f0 = 0 <;> cases q2 <;> simp [q0, q1])
     have hV : fromV c = (if (entV (partC c 0).f1 2 ⟨#[]⟩ (numsOf (partC c 2))).2.2.2.2 = 0 then if (decide ((partC c 0).f0 = 0) && (decide ((partC c 1).f0 = 0) && ((partC c 2).f3.all fun x => decide (x.f0 = 0 ∧ x.f1 = numAt x)))) = true then ((partC c 0).f1, 2, ⟨#[]⟩, numsOf (partC c 2), 0) else errE else errE) := by
      unfold fromV entV errE
      rw [n2, if_neg (show ¬ (2 : Int) = 0 by decide), if_pos g3, if_neg (show ¬ (2 : Int) = 1 by decide), if_neg (show ¬ (2 : Int) = 0 by decide), if_neg (show ¬ (2 : Int) = 1 by decide), if_pos rfl]
      by_cases q0 : (partC c 0).f0 = 0
      ·by_cases q1 : (partC c 1).f0 = 0
       ·rw [if_pos ⟨g2, by omega, q0, q1, by decide⟩]
        by_cases hr : (readV (partC c 2)).2 = true
        ·obtain ⟨_, m1, m2⟩ := hiff.1 hr
         rw [if_pos hr, hval hr, if_pos m1, m2]
         simp [q0, q1]
        ·rw [if_neg hr]
         by_cases hm : memB (numsOf (partC c 2)) = true
         ·rw [if_pos hm]
          have : ¬ ((partC c 2).f3.all fun x => decide (x.f0 = 0 ∧ x.f1 = numAt x)) = true := fun h => hr (hiff.2 ⟨g4, hm, h⟩)
          rw [Bool.not_eq_true] at this
          rw [this]
          simp
         ·rw [if_neg hm]
          rfl
       ·rw [if_neg (show ¬ (c.f0 = 2 ∧ 2 ≤ c.f3.length ∧ (partC c 0).f0 = 0 ∧ (partC c 1).f0 = 0 ∧ (2 : Int) ≤ 2) from fun h => q1 h.2.2.2.1)]
        simp [q1]
      ·rw [if_neg (show ¬ (c.f0 = 2 ∧ 2 ≤ c.f3.length ∧ (partC c 0).f0 = 0 ∧ (partC c 1).f0 = 0 ∧ (2 : Int) ≤ 2) from fun h => q0 h.2.2.1)]
       simp [q0]
     rw [hV]
     exact key
    ·have hr : ¬ (c.f0 = 2 ∧ c.f3.length = 3 ∧ (readV (partC c 2)).2 = true) := fun h => hg ⟨h.1, h.2.1, (hiff.1 h.2.2).1⟩
     have hV : fromV c = errE := by
      unfold fromV errE
      rw [n2, if_neg (show ¬ (2 : Int) = 0 by decide), if_neg (show ¬ (2 : Int) = 1 by decide)]
      by_cases g2 : c.f0 = 2
      ·by_cases g3 : c.f3.length = 3
       ·have g4 : ¬ (readV (partC c 2)).2 = true := fun h => hr ⟨g2, g3, h⟩
        rw [if_pos g3, if_neg g4]
        split <;> rfl
       ·rw [if_neg g3]
        split <;> rfl
      ·rw [if_neg (fun h => g2 h.1)]
     rw [hV]
     by_cases he : (entV (partC c 0).f1 2 ⟨#[]⟩ (numsOf (partC c 2))).2.2.2.2 = 0
     ·by_cases g : c.f0 = 2 ∧ c.f3.length = 3
      ·
       have g4 : ¬ (partC c 2).f0 = 2 := fun h => hg ⟨g.1, g.2, h⟩
       have hm := (hce he).1
       unfold numsOf at hm
       rw [if_neg g4] at hm
       exact absurd hm (by decide)
      ·have key := j2_ev c (partC c 0).f1 2 ⟨#[]⟩ (numsOf (partC c 2)) hnl false (fun he => by
        rw [(hce he).2]
        exact same_off 2 _ _ c (fun h => g ⟨h.1, h.2.symm⟩))
       simp only [Bool.false_eq_true, if_false] at key
       split at key <;> exact key
     ·have key := j2_ev c (partC c 0).f1 2 ⟨#[]⟩ (numsOf (partC c 2)) hnl false (fun h => absurd h he)
      rw [if_neg he] at key
      exact key
   ·
    have n0 : (partC c 1).f1 = 0 := by omega
    refine st1 _ _ _ _ n2 ?_
    rw [n0]
    by_cases hg : c.f0 = 2 ∧ c.f3.length = 2
    ·obtain ⟨g2, g3⟩ := hg
     have key := j2_ev c (partC c 0).f1 0 ⟨#[]⟩ [] (by simp) (decide ((partC c 0).f0 = 0) && decide ((partC c 1).f0 = 0)) (fun he => by
      rw [show cellOf (entV (partC c 0).f1 0 ⟨#[]⟩ []) = ⟨2, 0, ⟨#[]⟩, [numC (partC c 0).f1, numC 0]⟩ from rfl, same_two 2 _ _ c g2 g3, same_numC, same_numC, n0]
      simp only [and_true, Option.bind_some]
      by_cases q0 : (partC c 0).f0 = 0 <;> by_cases q1 : (partC c 1).f0 = 0 <;> simp [q0, q1])
     have hV : fromV c = (if (entV (partC c 0).f1 0 ⟨#[]⟩ []).2.2.2.2 = 0 then if (decide ((partC c 0).f0 = 0) && decide ((partC c 1).f0 = 0)) = true then ((partC c 0).f1, 0, ⟨#[]⟩, [], 0) else errE else errE) := by
      rw [if_pos (show (entV (partC c 0).f1 0 ⟨#[]⟩ []).2.2.2.2 = 0 from rfl)]
      unfold fromV errE
      rw [n0, if_pos rfl, if_pos g3]
      by_cases q0 : (partC c 0).f0 = 0
      ·by_cases q1 : (partC c 1).f0 = 0
       ·rw [if_pos ⟨g2, by omega, q0, q1, by decide⟩]
        simp [q0, q1]
       ·rw [if_neg (show ¬ (c.f0 = 2 ∧ 2 ≤ c.f3.length ∧ (partC c 0).f0 = 0 ∧ (partC c 1).f0 = 0 ∧ (0 : Int) ≤ 2) from fun h => q1 h.2.2.2.1)]
        simp [q1]
      ·rw [if_neg (show ¬ (c.f0 = 2 ∧ 2 ≤ c.f3.length ∧ (partC c 0).f0 = 0 ∧ (partC c 1).f0 = 0 ∧ (0 : Int) ≤ 2) from fun h => q0 h.2.2.1)]
       simp [q0]
     rw [hV]
     exact key
    ·have key := j2_ev c (partC c 0).f1 0 ⟨#[]⟩ [] (by simp) false (fun he => same_off 2 _ _ c (fun h => hg ⟨h.1, h.2.symm⟩))
     have hV : fromV c = errE := by
      unfold fromV errE
      by_cases g2 : c.f0 = 2
      ·have g3 : ¬ c.f3.length = 2 := fun h => hg ⟨g2, h⟩
       rw [n0, if_pos rfl, if_neg g3]
       split <;> rfl
      ·rw [if_neg (fun h => g2 h.1)]
     rw [hV]
     simp only [Bool.false_eq_true, if_false] at key
     split at key <;> exact key
 ·simp only [if_neg h1]
  refine st0 _ _ _ _ (by decide) (st1 _ _ _ _ (by decide) ?_)
  have hV : fromV c = errE := by
   unfold fromV errE
   rw [if_neg (fun h => h1 h.2.2.2.2)]
  rw [hV]
  have he : ¬ (entV (partC c 0).f1 9 ⟨#[]⟩ []).2.2.2.2 = 0 := by
   unfold entV
   rw [if_neg (by decide), if_neg (by decide), if_neg (by decide)]
   decide
  have key := j2_ev c (partC c 0).f1 9 ⟨#[]⟩ [] (by simp) false (fun h => absurd h he)
  rw [if_neg he] at key
  exact key
end Go.Proofs.YtlkaffbgekbcfaaDoor.Pure
end
section
namespace Go.Proofs.YtlkaffbgekbcfaaDoor.Pure
open Go.RowKit Go.Proofs.YtlkaffbgekbcfaaDoor.Pr Go.Proofs.YtlkaffbgekbcfaaDoorW.PrintWords Go.Proofs.YtlkaffbgekbcfaaDoorW.PrintLast Go.Proofs.YtlkaffbgekbcfaaDoorW.PrintMore
theorem numAt_numC {n : Int} (h0 : 0 < n) (h1 : n ≤ 64) : numAt (numC n) = n := by
 unfold numAt
 rw [if_pos (show (numC n).f1 ≤ 64 from h1)]
 exact wrap64_in _ (by show _ ≤ n; omega) (by show n ≤ _; omega)
theorem readV_members {l : List Int} (h : memB l = true) : readV (membersC l) = (l, true) := by
 have hf := (memB_facts h).2.2
 unfold readV
 rw [if_pos (show (membersC l).f0 = 2 from rfl)]
 show readR [] (l.map numC) = _
 rw [readR_all (l.map numC) [] (fun x hx => by
  obtain ⟨n, hn, rfl⟩ := List.mem_map.1 hx
  have := hf n hn
  exact ⟨rfl, by show 0 ≤ n; omega, by show n ≤ 64; omega⟩), List.nil_append, List.map_map]
 have : l.map (numAt ∘ numC) = l := by
  have e : l.map (numAt ∘ numC) = l.map id := List.map_congr_left fun n hn => numAt_numC (hf n hn).1 (hf n hn).2
  rw [e, List.map_id]
 rw [this, h]
def plainV (t n : Int) (s : ByteArray) (l : List Int) : Int × Int × ByteArray × List Int :=
 (t, n, if n = 1 then s else ⟨#[]⟩, if n = 2 then l else [])
theorem from_ent {t n : Int} {s : ByteArray} {l : List Int} (h : (entV t n s l).2.2.2.2 = 0) : fromV (cellOf (entV t n s l)) = ((plainV t n s l).1, (plainV t n s l).2.1, (plainV t n s l).2.2.1, (plainV t n s l).2.2.2, 0) ∧ (partC (cellOf (entV t n s l)) 1).f1 = n ∧ 0 ≤ n ∧ n ≤ 2 ∧ (partC (cellOf (entV t n s l)) 2).f3.length ≤ 64 := by
 unfold plainV
 by_cases h0 : n = 0
 ·subst h0
  exact ⟨rfl, rfl, by decide, by decide, Nat.zero_le _⟩
 ·by_cases h1 : n = 1
  ·subst h1
   have he : entV t 1 s l = if (s.size : Int) > 65536 then (0, 0, ⟨#[]⟩, [], 2) else (2, 0, ⟨#[]⟩, [numC t, numC 1, textC s], 0) := rfl
   rw [he] at h ⊢
   by_cases hs : (s.size : Int) > 65536
   ·rw [if_pos hs] at h; exact absurd h (by decide)
   ·rw [if_neg hs]
    refine ⟨?_, rfl, by decide, by decide, Nat.zero_le _⟩
    show (if (1 : Int) = 1 ∧ (s.size : Int) ≤ 65536 then ((t, 1, s, [], 0) : EnT) else (0, 0, ⟨#[]⟩, [], 4)) = _
    rw [if_pos ⟨rfl, by omega⟩]
    rfl
  ·by_cases h2 : n = 2
   ·subst h2
    have he : entV t 2 s l = if memB l = true then (2, 0, ⟨#[]⟩, [numC t, numC 2, membersC l], 0) else (0, 0, ⟨#[]⟩, [], 1) := rfl
    rw [he] at h ⊢
    by_cases hm : memB l = true
    ·rw [if_pos hm]
     refine ⟨?_, rfl, by decide, by decide, ?_⟩
     ·show (if (readV (membersC l)).2 = true then ((t, 2, ⟨#[]⟩, (readV (membersC l)).1, 0) : EnT) else (0, 0, ⟨#[]⟩, [], 4)) = _
      rw [readV_members hm]
      rfl
     ·show (l.map numC).length ≤ 64
      rw [List.length_map]
      exact (memB_facts hm).2.1
    ·rw [if_neg hm] at h; exact absurd h (by decide)
   ·unfold entV at h
    rw [if_neg h0, if_neg h1, if_neg h2] at h
    exact absurd h (by decide)
theorem from_len (c : C26) (hl : (partC c 2).f3.length ≤ 1048576) : (fromV c).2.2.2.1.length ≤ 9223372036854775807 := by
 unfold fromV
 split
 ·split
  ·split <;> exact Nat.zero_le _
  ·split
   ·split
    ·split <;> exact Nat.zero_le _
    ·split
     ·rename_i h
      obtain ⟨_, b, d, _⟩ := readV_ok h
      show (readV (partC c 2)).1.length ≤ _
      rw [b]
      have := (memB_facts d).2.1
      omega
     ·exact Nat.zero_le _
   ·exact Nat.zero_le _
 ·exact Nat.zero_le _
theorem plain_ev (t n : Int) (s : ByteArray) (l : List Int) (hl : l.length ≤ 1000) : minstrelref19_Plain.f t n s l = some (plainV t n s l) := by
 unfold minstrelref19_Plain.f plainV
 simp only [Option.bind_some, List.length_nil, List.nil_append, if_pos (show 0 + l.length < 17592186044416 by omega)]
 by_cases h1 : n = 1
 ·subst h1
  simp
 ·by_cases h2 : n = 2
  ·subst h2
   simp
  ·simp [h1, h2]
theorem SnapEntries (t n : Int) (s : ByteArray) (l : List Int) (c : C26) (wt : (Lit.int .u64 t).wf = true) (wn : (Lit.int .i64 n).wf = true) (wl : ∀ x ∈ l, (Lit.int .i64 x).wf = true) (hm : l.length ≤ maxLen) (ms : s.size ≤ maxLen) (z1 : l.length * 8 ≤ 140737488351232) (z2 : s.size ≤ 140737488351232) (hw : ∀ j, wfc j c) (hz : ∀ j, szc j c) : ∃ k, minstrellaw19_SnapEntries.f k t n s l c.f0 c.f1 c.f2 c.f3 = some true := by
 apply Ev.rounds
 obtain ⟨ok, hs, hok⟩ := small_top c hw
 have hll := lives_ev
 have j0true : Ev (fun k => minstrellaw19_SnapEntries.j0 k true t n s l c.f0 c.f1 c.f2 c.f3) true := by
  apply Ev.step
  ·intro k
   rw [minstrellaw19_SnapEntries.j0]
  simp only [if_true]
  exact Ev.bind hll (Ev.now _)
 delta minstrellaw19_SnapEntries.f
 refine Ev.bind hs ?_
 cases ok with
 | false => simpa only [Bool.false_eq_true, if_false] using j0true
 | true =>
  simp only [if_true]
  by_cases hlen : (l.length : Int) > 1000
  ·simp only [decide_eq_true hlen]
   exact j0true
  ·simp only [decide_eq_false hlen]
   obtain ⟨K, hd, hB⟩ := hok rfl
   have hl2 : l.length ≤ 9223372036854775807 := by omega
   have hS := snapEnt_ev t n s l hl2
   have hR := refEnt_ev t n s l hl2
   obtain ⟨hg1, hg2⟩ := ent_good t n s l hl2
   have hsame := same_eq 3 (cellOf (entV t n s l)) (cellOf (entV t n s l)) true (hg2 3) (sameC_refl 3 _ hg1)
   have hback := @from_ent t n s l
   have hp1 : 0 ≤ (partC c 1).f1 := by
    have := part_all (P := fun x => (Lit.int .u64 x.f1).wf = true) (c := c) rfl (fun x hx => ((hw 2).2.2.2.2 x hx).2.1) 1
    simp [Lit.wf, IntKind.min, IntKind.max, IntKind.signed, IntKind.bits] at this
    omega
   have hp2 : ∀ x ∈ (partC c 2).f3, 0 ≤ x.f1 := by
    have := part_all (P := fun y => ∀ x ∈ y.f3, (Lit.int .u64 x.f1).wf = true) (c := c) (fun x hx => by cases hx) (fun y hy x hx => (((hw 3).2.2.2.2 y hy).2.2.2.2 x hx).2.1) 2
    intro x hx
    have := this x hx
    simp [Lit.wf, IntKind.min, IntKind.max, IntKind.signed, IntKind.bits] at this
    omega
   have hpl : (partC c 2).f3.length ≤ 1048576 := by
    refine part_all (P := fun y => y.f3.length ≤ 1048576) (c := c) (Nat.zero_le _) (fun y hy => ?_) 2
    match K, hd, hB with
    | 0, hd, _ => exact absurd hd (by simp [dep])
    | K + 1, hd, hB =>
     rw [dep] at hd
     have h1 := List.all_eq_true.1 hd y hy
     match K, h1, hB.2 y hy with
     | 0, h1, _ => exact absurd h1 (by simp [dep])
     | K + 1, _, h3 => have := h3.1; omega
   have hF := snapFrom_ev c hp1 hpl
   have hG := refFrom_ev c hp1 hpl hp2
   have hfl := from_len c hpl
   have hsl := sameL_ev (fromV c).2.2.2.1 hfl (fromV c).1 (fromV c).2.1 (fromV c).2.2.1
   have hpv := plain_ev t n s l (by omega)
   have hbl := fun h => snapFrom_ev (cellOf (entV t n s l)) (by rw [(hback h).2.1]; exact (hback h).2.2.1) (by have := (hback h).2.2.2.2; omega)
   have hpl2 : (plainV t n s l).2.2.2.length ≤ 9223372036854775807 := by
    unfold plainV
    show (if n = 2 then l else []).length ≤ _
    split
    ·exact hl2
    ·exact Nat.zero_le _
   have hsb := sameL_ev (plainV t n s l).2.2.2 hpl2 (plainV t n s l).1 (plainV t n s l).2.1 (plainV t n s l).2.2.1
   generalize entV t n s l = e at hS hR hsame hback hbl
   generalize fromV c = V at hF hG hsl
   apply Ev.step
   ·intro k
    rw [minstrellaw19_SnapEntries.j0]
   simp only [Bool.false_eq_true, if_false]
   refine Ev.bind hS (Ev.bind hR (Ev.bind hsame ?_))
   simp only [if_true, bne_self_eq_false]
   apply Ev.step
   ·intro k
    rw [minstrellaw19_SnapEntries.j1]
   simp only [Bool.false_eq_true, if_false]
   refine Ev.bind (own_ev K c hd hB) (Ev.bind hF (Ev.bind hG ?_))
   simp only [if_true]
   refine Ev.bind hsl ?_
   simp only [Bool.not_true]
   apply Ev.step
   ·intro k
    rw [minstrellaw19_SnapEntries.j2]
   simp only [Bool.false_eq_true, if_false]
   by_cases he : e.2.2.2.2 = 0
   ·simp only [if_pos he]
    have hb := hbl he
    rw [(hback he).1] at hb
    refine Ev.bind hb ?_
    simp only [if_true, hpv, Option.bind_some]
    refine Ev.bind hsb ?_
    simp only [if_true]
    exact Ev.bind hll (Ev.now _)
   ·simp only [if_neg he]
    exact Ev.bind hll (Ev.now _)
end Go.Proofs.YtlkaffbgekbcfaaDoor.Pure
end
section
namespace Go.Proofs.YtlkaffbgekbcfaaDoor.Pr
open Go.ChangeShapes Go.WideShapes Go.RowKit Go.Proofs.YtlkaffbgekbcfaaDoorW.PrintWords Go.Proofs.YtlkaffbgekbcfaaDoorW.PrintLast Go.Proofs.YtlkaffbgekbcfaaDoorW.PrintMore
set_option maxRecDepth 100000
theorem open_row {H : Type} {enc : TypeId × Value → H} {w : World} {fuel : Nat} {v : Value} {x : DataW H × List MemPlace} (h : DataW.trod enc Tryd.prog w 0 (fun _ => true) true fuel 23 [v] = some x) :
  ∃ (l : List Int) (A : Option Addr) (cap : Nat), v = .slice A l.length cap ∧ Kd.C (Kd.int .i64) w A l.length l ∧ l.length ≤ cap ∧ l.length ≤ maxLen ∧ (∀ n ∈ l, (Lit.int .i64 n).wf = true) ∧ ((∀ n ∈ x.1.weights Tryd.prog 23, n ≤ reachBytes) → l.length * 8 ≤ 140737488351232) := by
 rcases open_ints Tryd.underlying23 Tryd.underlying3 (by kernel_rfl) h with ⟨hcs, _⟩ | ⟨a, len, cap, zs, hcs, _, hl, hm, hz, hx, hcell, hwz⟩
 ·injection hcs with hcs _
  exact ⟨[], none, 0, hcs, Kd.C_nil _ _, Nat.le_refl _, Nat.zero_le _, (fun n hn => by cases hn), fun _ => Nat.zero_le _⟩
 ·injection hcs with hcs _
  have hz' : zs.length = cap := by simpa using hz
  obtain ⟨l, hlen, hr, hml, hwl, hc⟩ := ReadsInt.ofRowC (k := .i64) (w := w) (a := some a) (len := len) (cap := cap) (zs := zs) (.inr ⟨a, rfl, hl, hm, hz', hcell, hwz⟩)
  subst hlen
  refine ⟨l, some a, cap, hcs, Kd.C_of_reads (d := (0 : Int)) (h1 := fun _ => rfl) hr, hc, hml, hwl, fun hall => ?_⟩
  have h1 := hall ((zs.take l.length).length * 8 + (zs.drop l.length).length * 8) (by
   rw [hx]
   simp only [DataW.weights, Tryd.underlying23, lits, List.length_map]
   rw [show Tryd.prog.bytesOf 3 = 8 by kernel_rfl, ← Nat.add_mul]
   exact List.mem_cons_self)
  rw [← Nat.add_mul, ← List.length_append, List.take_append_drop, hz'] at h1
  have : cap * 8 ≤ 140737488351232 := h1
  omega
end Go.Proofs.YtlkaffbgekbcfaaDoor.Pr
end
section
namespace Go.Proofs.YtlkaffbgekbcfaaDoor.Pr
open Go.ChangeShapes Go.WideShapes Go.RowKit Go.Proofs.YtlkaffbgekbcfaaDoorW.PrintWords Go.Proofs.YtlkaffbgekbcfaaDoorW.PrintLast Go.Proofs.YtlkaffbgekbcfaaDoorW.PrintMore
set_option maxRecDepth 100000
theorem open_entry {H : Type} {enc : TypeId × Value → H} {w : World} {r : Reach} {b0 : Nat} {v : Value} {d : DataW H} {ps : List MemPlace} (hval : Value.okWide Tryd.prog w r b0 46 v) (hd : DataW.Trod enc Tryd.prog w 0 (fun _ => true) true 46 v d ps) :
  ∃ (t n : Int) (s : ByteArray) (l : List Int) (A : Option Addr) (cap : Nat),
   v = .agg #[.int .u64 t, .int .i64 n, .string s, .slice A l.length cap] ∧
   (Kd.C (Kd.int .i64) w A l.length l ∧ l.length ≤ cap ∧ l.length ≤ maxLen) ∧
   (Lit.int .u64 t).wf = true ∧ (Lit.int .i64 n).wf = true ∧ (∀ n ∈ l, (Lit.int .i64 n).wf = true) ∧ s.size ≤ maxLen ∧
   ((∀ n ∈ d.weights Tryd.prog 46, n ≤ reachBytes) → l.length * 8 ≤ 140737488351232 ∧ s.size ≤ 140737488351232) := by
 obtain ⟨cs, rfl, hsz⟩ := Go.WideShapes.okWide_struct Tryd.underlying46 hval
 obtain ⟨fuel, h⟩ := hd
 obtain ⟨xs, n, hn, hx, hl, hlen, hf⟩ := DataW.trod_struct Tryd.underlying46 h
 obtain ⟨rfl, -⟩ := Prod.mk.inj hx
 obtain ⟨cs⟩ := cs
 have hl4 : cs.length = 4 := hl
 obtain ⟨v0, v1, v2, v3, rfl⟩ : ∃ v0 v1 v2 v3, cs = [v0, v1, v2, v3] := by
  match cs, hl4 with
  | [a, b, c, d], _ => exact ⟨a, b, c, d, rfl⟩
 have hxl : xs.length = 4 := hlen
 obtain ⟨y0, y1, y2, y3, rfl⟩ : ∃ y0 y1 y2 y3, xs = [y0, y1, y2, y3] := by
  match xs, hxl with
  | [a, b, c, d], _ => exact ⟨a, b, c, d, rfl⟩
 have g0 : DataW.trod enc Tryd.prog w 0 (fun _ => true) true n 22 [v0] = some y0 := hf 0 _ rfl
 have g1 : DataW.trod enc Tryd.prog w 0 (fun _ => true) true n 3 [v1] = some y1 := hf 1 _ rfl
 have g2 : DataW.trod enc Tryd.prog w 0 (fun _ => true) true n 9 [v2] = some y2 := hf 2 _ rfl
 have g3 : DataW.trod enc Tryd.prog w 0 (fun _ => true) true n 23 [v3] = some y3 := hf 3 _ rfl
 obtain ⟨t, e0, _, w0⟩ := DataW.trod_int Tryd.underlying22 g0
 obtain ⟨k, e1, _, w1⟩ := DataW.trod_int Tryd.underlying3 g1
 obtain ⟨S, e2, z2, w2⟩ := DataW.trod_string Tryd.underlying9 g2
 injection e0 with e0 _
 injection e1 with e1 _
 injection e2 with e2 _
 obtain ⟨l, A, cap, e3, hC, hc, hm, hw, hz⟩ := open_row g3
 refine ⟨t, k, S, l, A, cap, ?_, ⟨hC, hc, hm⟩, w0, w1, hw, w2, fun hall => ?_⟩
 ·rw [e0, e1, e2, e3]
 ·have hfs : ∀ n, n ∈ (y2.1.weights Tryd.prog 9) ∨ n ∈ (y3.1.weights Tryd.prog 23) → n ∈ DataW.weights Tryd.prog 46 (.agg [y0.1, y1.1, y2.1, y3.1]) := by
   intro n hn
   simp only [DataW.weights, Tryd.underlying46]
   show n ∈ DataW.weightsEach Tryd.prog [22, 3, 9, 23] [y0.1, y1.1, y2.1, y3.1]
   simp only [DataW.weightsEach, List.mem_append, List.append_nil]
   rcases hn with hn | hn
   ·exact .inr (.inr (.inl hn))
   ·exact .inr (.inr (.inr hn))
  refine ⟨hz fun n hn => hall n (hfs n (.inr hn)), ?_⟩
  have := hall S.size (hfs _ (.inl (by rw [z2]; simp [DataW.weights, Array.length_toList])))
  exact this
end Go.Proofs.YtlkaffbgekbcfaaDoor.Pr
end
