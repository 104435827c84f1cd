/- A part of the proof of the law that RowSnapLoads shows: lemmas, and contracts of the calls that it reaches. -/
import Derived.Test.YtlkaffbgekbcfaaDoorProg
import Derived.Below
import Derived.Deep.Draws
import Derived.Deep.AppendLies
import Derived.Maps.AppendAt
import Derived.OwnWalk
import Derived.Laws.BytesArg
import Derived.Laws.MakeOwn
import Derived.Laws.OwnMore
import Derived.Deep.OwnRows
import Derived.Tactics
import Derived.Lib.ConvBytes
import Derived.Laws.Slices
import Derived.WalkKit
import Derived.KernelRfl
import Derived.RowKit3
import Derived.Deep.LoopGhost
import Derived.Deep.QuietTactic
import Derived.BigQuiet
import Derived.WideLaws
import Derived.Deep.DeepCutAuto
import Derived.Deep.CutBlock
import Derived.Deep.RegionHeld3
import Derived.Laws.Rows
import Derived.Lib.AppendStr
import Derived.ArgAppend
import Derived.Laws.IdiomCopy
import Derived.OrdersHeld
import Derived.Laws.BitsLemmas
import Derived.RowKit
import Derived.Test.YtlkaffbgekbcfaaDoorZC0
import Derived.Test.YtlkaffbgekbcfaaDoorZC1
import Derived.Test.YtlkaffbgekbcfaaDoorZC4
import Derived.Test.YtlkaffbgekbcfaaDoorZC2
import Derived.Test.YtlkaffbgekbcfaaDoorZC3
import Derived.Laws.Bits64b
import Derived.ChangeArms
import Derived.OpenShut
set_option linter.unusedVariables false
set_option linter.unusedSimpArgs false
section
namespace Go.Proofs.YtlkaffbgekbcfaaDoor.Pr
open Go.RowKit Go.Proofs.YtlkaffbgekbcfaaDoorW.PrintWords Go.Proofs.YtlkaffbgekbcfaaDoorW.PrintLast Go.Proofs.YtlkaffbgekbcfaaDoorW.PrintMore
attribute [local go_sem] max2_int min2_int max_two min_two max_three min_three max_four min_four
def minstrelref19_Load.f (k : Nat) (l0 : List Int) : Option (Int × Int × List Int × Int × Int × ByteArray × (List (S26)) × Int × Int × ByteArray × (List (S26)) × Int) := (minstrelref06_First.f l0).bind fun bt514 => (if bt514.2.2 = 0 then ((minstrelref07_Decode.f k bt514.1).bind fun bt519 => (if bt519.2.2.2.2 = 0 then ((minstrelref19_part.f bt519.1 bt519.2.1 bt519.2.2.1 bt519.2.2.2.1 0).bind fun bt527 => ((minstrelref19_part.f bt519.1 bt519.2.1 bt519.2.2.1 bt519.2.2.2.1 1).bind fun bt533 => ((minstrelref19_part.f bt519.1 bt519.2.1 bt519.2.2.1 bt519.2.2.2.1 2).bind fun bt539 => ((minstrelref19_numbers.f k bt539.1 bt539.2.1 bt539.2.2.1 bt539.2.2.2).bind fun t545 => ((minstrelref19_part.f bt519.1 bt519.2.1 bt519.2.2.1 bt519.2.2.2.1 3).bind fun bt548 => ((minstrelref19_part.f bt519.1 bt519.2.1 bt519.2.2.1 bt519.2.2.2.1 4).bind fun bt554 => ((minstrelref19_Save.f k bt527.2.1 bt533.2.1 t545 bt548.1 bt548.2.1 bt548.2.2.1 bt548.2.2.2 bt554.1 bt554.2.1 bt554.2.2.1 bt554.2.2.2).bind fun bt561 => (if bt561.2 = 0 then (if (strOfNums bt561.1).toList = (strOfNums l0).toList then (some (bt527.2.1, bt533.2.1, t545, bt548.1, bt548.2.1, bt548.2.2.1, bt548.2.2.2, bt554.1, bt554.2.1, bt554.2.2.1, bt554.2.2.2, 0)) else (some (0, 0, ([] : List Int), 0, 0, (⟨#[]⟩ : ByteArray), ([] : List (S26)), 0, 0, (⟨#[]⟩ : ByteArray), ([] : List (S26)), 4))) else (some (0, 0, ([] : List Int), 0, 0, (⟨#[]⟩ : ByteArray), ([] : List (S26)), 0, 0, (⟨#[]⟩ : ByteArray), ([] : List (S26)), 4)))))))))) else (some (0, 0, ([] : List Int), 0, 0, (⟨#[]⟩ : ByteArray), ([] : List (S26)), 0, 0, (⟨#[]⟩ : ByteArray), ([] : List (S26)), 4)))) else (some (0, 0, ([] : List Int), 0, 0, (⟨#[]⟩ : ByteArray), ([] : List (S26)), 0, 0, (⟨#[]⟩ : ByteArray), ([] : List (S26)), 4)))
theorem minstrelref19_Load.mono : ∀ a0 k, LeO (minstrelref19_Load.f k a0) (minstrelref19_Load.f (k + 1) a0) := by
 intro a0 k
 unfold minstrelref19_Load.f
 repeat' first
   | (with_reducible exact minstrelref07_Decode.mono _ _)
   | (with_reducible exact minstrelref19_Save.mono _ _ _ _ _ _ _ _ _ _ _ _)
   | (with_reducible exact minstrelref19_numbers.mono _ _ _ _ _)
   | (with_reducible exact LeO.refl _)
   | (with_reducible exact LeO.none _)
   | (with_reducible refine LeO.ite ?_ ?_)
   | (with_reducible refine LeO.bind ?_ (fun _ => ?_))
   | exact minstrelref07_Decode.mono _ _
   | exact minstrelref19_Save.mono _ _ _ _ _ _ _ _ _ _ _ _
   | exact minstrelref19_numbers.mono _ _ _ _ _
   | exact LeO.none _
   | refine LeO.ite ?_ ?_
   | refine LeO.bind ?_ (fun _ => ?_)
set_option maxHeartbeats 8000000 in
set_option maxRecDepth 100000 in
theorem minstrelref19_Load.calls (k : Nat) (A0 : Option Addr) (c0 : Nat) (l0 : List Int) (r1 : Int) (r2 : Int) (r3 : List Int) (r4 : Int) (r5 : Int) (r6 : ByteArray) (r7 : List (S26)) (r8 : Int) (r9 : Int) (r10 : ByteArray) (r11 : List (S26)) (r12 : Int) (w : World) (hr0 : Kd.C (Kd.int .u8) w A0 l0.length l0) (hc0 : l0.length ≤ c0) (h : minstrelref19_Load.f k l0 = some (r1, r2, r3, r4, r5, r6, r7, r8, r9, r10, r11, r12)) :
  Calls Tryd.prog 16 #[.slice A0 l0.length c0] w fun e w' => ∃ v2_ v6_ v10_ : Value, e = .returned (.tuple #[.agg #[.int .u64 r1, .int .u64 r2, v2_, .int .i64 r4, .int .u64 r5, .string r6, v6_, .int .i64 r8, .int .u64 r9, .string r10, v10_], .int .i64 r12]) ∧ Kd.R (Kd.int .i64) 3 w' w.heap.size (fun k_ => (w.heap.size ≤ k_)) v2_ r3 ∧ Kd.V k26 26 w' w.heap.size (fun k_ => (w.heap.size ≤ k_) ∧ some k_ ≠ (v2_ : Value).ownBlock) v6_ r7 ∧ Kd.V k26 26 w' w.heap.size (fun k_ => (w.heap.size ≤ k_) ∧ some k_ ≠ (v2_ : Value).ownBlock) v10_ r11 ∧ Below w.heap.size w w' := by
 have hu28 := Tryd.underlying28
 have hu26 := Tryd.underlying26
 have HR0 := am hr0
 have HC0 := am hc0
 clear hr0 hc0
 have HB := am (Below.refl w.heap.size w)
 have H : ((minstrelref06_First.f l0).bind fun bt514 => (if bt514.2.2 = 0 then ((minstrelref07_Decode.f k bt514.1).bind fun bt519 => (if bt519.2.2.2.2 = 0 then ((minstrelref19_part.f bt519.1 bt519.2.1 bt519.2.2.1 bt519.2.2.2.1 0).bind fun bt527 => ((minstrelref19_part.f bt519.1 bt519.2.1 bt519.2.2.1 bt519.2.2.2.1 1).bind fun bt533 => ((minstrelref19_part.f bt519.1 bt519.2.1 bt519.2.2.1 bt519.2.2.2.1 2).bind fun bt539 => ((minstrelref19_numbers.f k bt539.1 bt539.2.1 bt539.2.2.1 bt539.2.2.2).bind fun t545 => ((minstrelref19_part.f bt519.1 bt519.2.1 bt519.2.2.1 bt519.2.2.2.1 3).bind fun bt548 => ((minstrelref19_part.f bt519.1 bt519.2.1 bt519.2.2.1 bt519.2.2.2.1 4).bind fun bt554 => ((minstrelref19_Save.f k bt527.2.1 bt533.2.1 t545 bt548.1 bt548.2.1 bt548.2.2.1 bt548.2.2.2 bt554.1 bt554.2.1 bt554.2.2.1 bt554.2.2.2).bind fun bt561 => (if bt561.2 = 0 then (if (strOfNums bt561.1).toList = (strOfNums l0).toList then (some (bt527.2.1, bt533.2.1, t545, bt548.1, bt548.2.1, bt548.2.2.1, bt548.2.2.2, bt554.1, bt554.2.1, bt554.2.2.1, bt554.2.2.2, 0)) else (some (0, 0, ([] : List Int), 0, 0, (⟨#[]⟩ : ByteArray), ([] : List (S26)), 0, 0, (⟨#[]⟩ : ByteArray), ([] : List (S26)), 4))) else (some (0, 0, ([] : List Int), 0, 0, (⟨#[]⟩ : ByteArray), ([] : List (S26)), 0, 0, (⟨#[]⟩ : ByteArray), ([] : List (S26)), 4)))))))))) else (some (0, 0, ([] : List Int), 0, 0, (⟨#[]⟩ : ByteArray), ([] : List (S26)), 0, 0, (⟨#[]⟩ : ByteArray), ([] : List (S26)), 4)))) else (some (0, 0, ([] : List Int), 0, 0, (⟨#[]⟩ : ByteArray), ([] : List (S26)), 0, 0, (⟨#[]⟩ : ByteArray), ([] : List (S26)), 4)))) = some (r1, r2, r3, r4, r5, r6, r7, r8, r9, r10, r11, r12) := h
 clear h
 replace H := Option.bind_eq_some_iff.mp H
 obtain ⟨⟨t514, t515, t516⟩, A20, H⟩ := H
 try dsimp only at H
 have A2 := am A20
 clear A20
 by_cases c3 : t516 = 0
 ·rw [if_pos c3] at H
  have c3b0 : (t516 == 0) = true := beq_iff_eq.mpr c3
  have c3b1 : (t516 != 0) = false := bne_eq_false_iff_eq.mpr c3
  clear c3
  replace H := Option.bind_eq_some_iff.mp H
  obtain ⟨⟨t519, t520, t521, t522, t525⟩, A40, H⟩ := H
  try dsimp only at H
  have A4 := am A40
  clear A40
  by_cases c5 : t525 = 0
  ·rw [if_pos c5] at H
   have c5b0 : (t525 == 0) = true := beq_iff_eq.mpr c5
   have c5b1 : (t525 != 0) = false := bne_eq_false_iff_eq.mpr c5
   clear c5
   replace H := Option.bind_eq_some_iff.mp H
   obtain ⟨⟨t527, t528, t529, t530⟩, A60, H⟩ := H
   try dsimp only at H
   have A6 := am A60
   clear A60
   replace H := Option.bind_eq_some_iff.mp H
   obtain ⟨⟨t533, t534, t535, t536⟩, A70, H⟩ := H
   try dsimp only at H
   have A7 := am A70
   clear A70
   replace H := Option.bind_eq_some_iff.mp H
   obtain ⟨⟨t539, t540, t541, t542⟩, A80, H⟩ := H
   try dsimp only at H
   have A8 := am A80
   clear A80
   replace H := Option.bind_eq_some_iff.mp H
   obtain ⟨t545, A90, H⟩ := H
   try dsimp only at H
   have A9 := am A90
   clear A90
   replace H := Option.bind_eq_some_iff.mp H
   obtain ⟨⟨t548, t549, t550, t551⟩, A100, H⟩ := H
   try dsimp only at H
   have A10 := am A100
   clear A100
   replace H := Option.bind_eq_some_iff.mp H
   obtain ⟨⟨t554, t555, t556, t557⟩, A110, H⟩ := H
   try dsimp only at H
   have A11 := am A110
   clear A110
   replace H := Option.bind_eq_some_iff.mp H
   obtain ⟨⟨t561, t564⟩, A120, H⟩ := H
   try dsimp only at H
   have A12 := am A120
   clear A120
   go_enter Tryd.func16, Tryd.ntmps16
   try go_wp2_with (first | ((with_reducible refine gate_dst (N := 2) rfl ?_); refine box_event ?hg (N := 2) ?hd (cs := zS_) (t := 28) ?hr ?_; (case hd => rfl); (case hg => rfl); (case hr => first | (go_simp; done) | (go_simp; rfl)); intro gb513 hg w15 hbox hb; have BK513 := am (hbox); have GW513 := am ((by rw [hg]; exact (below_size pB) : w.heap.size ≤ gb513)); have GE513 := am ((by rw [hg]; exact (below_size pB) : w.heap.size ≤ gb513)); replace HB := am (below_step pB hb); clear hb hbox hg) | ((with_reducible refine gate_callee (f := 39) rfl ?_); refine goesL_ (some 12) rfl rfl Tryd.func39 (by kernel_rfl) rfl #[.slice A0 l0.length c0] rfl pM ?_; (with_reducible refine (minstrelref06_First.calls _ _ l0 t514 t515 t516 _ ?side1 ?side2 A2.out).mono ?_); (case side1 => exact pC (Kd.C_below HR0.out HB.out)); (case side2 => exact HC0.out); rintro e w16 ⟨v517, rfl, ho0, hb⟩; refine ⟨_, rfl, ?_⟩; have HO518 := am (Kd.R_lower (Kd.R_newM (M := fun k_ => (w.heap.size ≤ k_)) ho0 (below_size pB) (fun k_ h_ => h_)) (below_size pB)); replace BK513 := am (pkb BK513.out hb); replace HB := am (below_step pB hb); (try clear hb); (try clear hb2); (try clear hk); (try clear hi); (try clear ho0); obtain ⟨Ao17, co17, eo17⟩ := Kd.R_slice HO518.out; subst eo17) | ((with_reducible refine gate_callee (f := 40) rfl ?_); refine goesL_ (some 21) rfl rfl Tryd.func40 (by kernel_rfl) rfl #[.slice Ao17 t514.length co17] rfl pM ?_; (with_reducible refine (minstrelref07_Decode.calls k _ _ t514 t519 t520 t521 t522 t525 _ ?side1 ?side2 A4.out).mono ?_); (case side1 => repeat (first | exact (Kd.R_reads' HO518.out).2.2 | (with_reducible refine Kd.C_alloc ?_ _) | (with_reducible refine Kd.C_drewN ?_ _) | (with_reducible refine Kd.C_drew ?_))); (case side2 => exact (Kd.R_reads' HO518.out).2.1); rintro e w18 ⟨v523, rfl, ho0, hb⟩; refine ⟨_, rfl, ?_⟩; replace HO518 := am (Kd.R_below (pR HO518.out) hb); have HO524 := am (Kd.R_lower (Kd.R_newM (M := fun k_ => (w.heap.size ≤ k_)) ho0 (below_size pB) (fun k_ h_ => h_)) (below_size pB)); replace BK513 := am (pkb BK513.out hb); replace HB := am (below_step pB hb); (try clear hb); (try clear hb2); (try clear hk); (try clear hi); (try clear ho0)) | ((with_reducible refine gate_dst (N := 7) rfl ?_); refine box_event ?hg (N := 7) ?hd (cs := #[.int .i64 0, .int .u64 0, .string (⟨#[]⟩ : ByteArray), .slice none 0 0]) (t := 26) ?hr ?_; (case hd => rfl); (case hg => rfl); (case hr => first | (go_simp; done) | (go_simp; rfl)); intro gb526 hg w19 hbox hb; replace HO518 := am (Kd.R_below (pR HO518.out) hb); replace HO524 := am (Kd.R_below (Kd.R_elderB (pR HO524.out) gb526 (Nat.le_of_eq hg.symm)) hb); have BK526 := am (hbox); have GW526 := am ((by rw [hg]; exact (below_size pB) : w.heap.size ≤ gb526)); have GE526 := am ((by rw [hg]; exact (below_size pB) : w.heap.size ≤ gb526)); have NB513_526 := am ((by rw [hg]; exact Nat.ne_of_lt (pkl BK513.out) : gb513 ≠ gb526)); have NB526_513 := am ((by rw [hg]; exact Nat.ne_of_gt (pkl BK513.out) : gb526 ≠ gb513)); replace BK513 := am (pkb BK513.out hb); replace HB := am (below_step pB hb); clear hb hbox hg; have hnb20 := NB526_513.out; have hnc20 := NB513_526.out; have q21 := cf4 BK526.out; obtain ⟨Ao22, co22, eo22⟩ := Kd.R_slice HO524.out; subst eo22))
   have n0_ : Aside0 (Kd.R (Kd.int .u8) 5 ((((w19.setCell ⟨gb526, 0, none⟩ (.int .i64 t519)).setCell ⟨gb526, 1, none⟩ (.int .u64 t520)).setCell ⟨gb526, 2, none⟩ (.string t521)).setCell ⟨gb526, 3, none⟩ (.slice Ao22 t522.length co22)) w.heap.size (fun k_ => (w.heap.size ≤ k_)) (.slice Ao17 t514.length co17) t514) := ⟨by (with_reducible repeat (first | apply Kd.R_alloc | apply Kd.R_drewN | apply Kd.R_drew)); exact Kd.R_mono (Kd.R_far (p := ⟨gb526, 3, none⟩) (Kd.R_far (p := ⟨gb526, 2, none⟩) (Kd.R_far (p := ⟨gb526, 1, none⟩) (Kd.R_far (p := ⟨gb526, 0, none⟩) (Kd.R_types HO518.out BK526.out (by decide)) (fun _ hk => hk.2) (.int .i64 t519)) (fun _ hk => hk.2) (.int .u64 t520)) (fun _ hk => hk.2) (.string t521)) (fun _ hk => hk.2) (.slice Ao22 t522.length co22)) (fun _ hk => hk.1.1)⟩
   have n1_ : Aside0 (Kd.R k26 26 ((((w19.setCell ⟨gb526, 0, none⟩ (.int .i64 t519)).setCell ⟨gb526, 1, none⟩ (.int .u64 t520)).setCell ⟨gb526, 2, none⟩ (.string t521)).setCell ⟨gb526, 3, none⟩ (.slice Ao22 t522.length co22)) w.heap.size (fun k_ => (w.heap.size ≤ k_) ∧ k_ ≠ gb526) (.slice Ao22 t522.length co22) t522) := ⟨by (with_reducible repeat (first | apply Kd.R_alloc | apply Kd.R_drewN | apply Kd.R_drew)); exact Kd.R_mono (Kd.R_far (p := ⟨gb526, 3, none⟩) (Kd.R_far (p := ⟨gb526, 2, none⟩) (Kd.R_far (p := ⟨gb526, 1, none⟩) (Kd.R_far (p := ⟨gb526, 0, none⟩) (Kd.R_mono HO524.out (fun k_ hk => (⟨hk, hk.2⟩ : _ ∧ k_ ≠ gb526))) (fun _ hk => hk.2) (.int .i64 t519)) (fun _ hk => hk.2) (.int .u64 t520)) (fun _ hk => hk.2) (.string t521)) (fun _ hk => hk.2) (.slice Ao22 t522.length co22)) (fun _ hk => ⟨hk.1.1.1, hk.1.2⟩)⟩
   have n2_ : Aside0 (((((w19.setCell ⟨gb526, 0, none⟩ (.int .i64 t519)).setCell ⟨gb526, 1, none⟩ (.int .u64 t520)).setCell ⟨gb526, 2, none⟩ (.string t521)).setCell ⟨gb526, 3, none⟩ (.slice Ao22 t522.length co22)).heap[gb513]? = some (.cells #[.int .u64 0, .int .u64 0, .slice none 0 0, .int .i64 0, .int .u64 0, .string (⟨#[]⟩ : ByteArray), .slice none 0 0, .int .i64 0, .int .u64 0, .string (⟨#[]⟩ : ByteArray), .slice none 0 0] 28 (0, 0))) := ⟨by (with_reducible repeat (first | refine blk_drewN ?_ _ | refine blk_drew ?_ | refine blk_alloc ?_ _)); refine blk_far ?_ NB513_526.out _; (with_reducible repeat (first | refine blk_drewN ?_ _ | refine blk_drew ?_ | refine blk_alloc ?_ _)); refine blk_far ?_ NB513_526.out _; (with_reducible repeat (first | refine blk_drewN ?_ _ | refine blk_drew ?_ | refine blk_alloc ?_ _)); refine blk_far ?_ NB513_526.out _; (with_reducible repeat (first | refine blk_drewN ?_ _ | refine blk_drew ?_ | refine blk_alloc ?_ _)); refine blk_far ?_ NB513_526.out _; (with_reducible repeat (first | refine blk_drewN ?_ _ | refine blk_drew ?_ | refine blk_alloc ?_ _)); exact BK513.out⟩
   have n3_ : Aside0 (((((w19.setCell ⟨gb526, 0, none⟩ (.int .i64 t519)).setCell ⟨gb526, 1, none⟩ (.int .u64 t520)).setCell ⟨gb526, 2, none⟩ (.string t521)).setCell ⟨gb526, 3, none⟩ (.slice Ao22 t522.length co22)).heap[gb526]? = some (.cells #[.int .i64 t519, .int .u64 t520, .string t521, .slice Ao22 t522.length co22] 26 (0, 0))) := ⟨by (with_reducible repeat (first | refine blk_drewN ?_ _ | refine blk_drew ?_ | refine blk_alloc ?_ _)); refine blk_put (cs := #[.int .i64 t519, .int .u64 t520, .string t521, .slice none 0 0]) ?_ 3 _ rfl; (with_reducible repeat (first | refine blk_drewN ?_ _ | refine blk_drew ?_ | refine blk_alloc ?_ _)); refine blk_put (cs := #[.int .i64 t519, .int .u64 t520, .string (⟨#[]⟩ : ByteArray), .slice none 0 0]) ?_ 2 _ rfl; (with_reducible repeat (first | refine blk_drewN ?_ _ | refine blk_drew ?_ | refine blk_alloc ?_ _)); refine blk_put (cs := #[.int .i64 t519, .int .u64 0, .string (⟨#[]⟩ : ByteArray), .slice none 0 0]) ?_ 1 _ rfl; (with_reducible repeat (first | refine blk_drewN ?_ _ | refine blk_drew ?_ | refine blk_alloc ?_ _)); refine blk_put (cs := #[.int .i64 0, .int .u64 0, .string (⟨#[]⟩ : ByteArray), .slice none 0 0]) ?_ 0 _ rfl; (with_reducible repeat (first | refine blk_drewN ?_ _ | refine blk_drew ?_ | refine blk_alloc ?_ _)); exact BK526.out⟩
   have n4_ : Aside0 (Below w.heap.size w ((((w19.setCell ⟨gb526, 0, none⟩ (.int .i64 t519)).setCell ⟨gb526, 1, none⟩ (.int .u64 t520)).setCell ⟨gb526, 2, none⟩ (.string t521)).setCell ⟨gb526, 3, none⟩ (.slice Ao22 t522.length co22))) := ⟨pB⟩
   (try clear HO518); (try clear HO524); (try clear BK513); (try clear BK526); (try clear HB)
   generalize ((((w19.setCell ⟨gb526, 0, none⟩ (.int .i64 t519)).setCell ⟨gb526, 1, none⟩ (.int .u64 t520)).setCell ⟨gb526, 2, none⟩ (.string t521)).setCell ⟨gb526, 3, none⟩ (.slice Ao22 t522.length co22)) = w23 at n0_ n1_ n2_ n3_ n4_ ⊢
   have HO518 := n0_; have HO524 := n1_; have BK513 := n2_; have BK526 := n3_; have HB := n4_; clear n0_ n1_ n2_ n3_ n4_
   replace HO518 := am (Kd.R_drew HO518.out)
   replace HO524 := am (Kd.R_drew HO524.out)
   replace BK513 := am (blk_drew BK513.out)
   replace BK526 := am (blk_drew BK526.out)
   replace HB := am (below_drew1 HB.out)
   have hN2 : gb526 < w23.heap.size := blk_lt BK526.out
   have hN1 : gb513 < w23.heap.size := blk_lt BK513.out
   have hN0 : w.heap.size ≤ w23.heap.size := HB.out.size
   refine each_ (D := LdP.D ⟨w, w23.heap.size, gb513, gb526, .slice Ao17 t514.length co17, t514, .slice Ao22 t522.length co22, t522, #[.int .i64 t519, .int .u64 t520, .string t521, .slice Ao22 t522.length co22], ⟨t527, t528, t529, t530⟩, ⟨t533, t534, t535, t536⟩, ⟨t539, t540, t541, t542⟩, ⟨t548, t549, t550, t551⟩, ⟨t554, t555, t556, t557⟩, t545⟩) (W := LdP.Wd ⟨w, w23.heap.size, gb513, gb526, .slice Ao17 t514.length co17, t514, .slice Ao22 t522.length co22, t522, #[.int .i64 t519, .int .u64 t520, .string t521, .slice Ao22 t522.length co22], ⟨t527, t528, t529, t530⟩, ⟨t533, t534, t535, t536⟩, ⟨t539, t540, t541, t542⟩, ⟨t548, t549, t550, t551⟩, ⟨t554, t555, t556, t557⟩, t545⟩) (by kernel_rfl) (by kernel_rfl) ?h0 ?hstep ?hend
   case h0 => exact ⟨Kd.R_mono (Kd.R_bound HO518.out) (fun k hk => ⟨hk.2.1, hk.2.2.1⟩), Kd.R_mono (Kd.R_types (Kd.R_bound (Kd.R_apart' (HO524.out) (Kd.R_typed HO518.out) (by decide))) BK513.out (by decide)) (fun k hk => ⟨hk.1.2.1, hk.1.2.2.1, hk.2, hk.1.1.1.2, hk.1.1.2⟩), BK513.out, BK526.out, HB.out, Nat.le_refl _⟩
   case hstep =>
    intro i o a W' ho hW hsz hout hdep
    have hz : a.tmps.size = 57 := hsz.trans (by kernel_rfl)
    match i, ho, hdep with
    | 0, ho, hdep =>
     obtain rfl := Option.some.inj ho
     have h7 : a.tmps.getD 7 undef = .pointer (some ⟨gb526, 0, none⟩) := (hout 7 (dst_out (by kernel_rfl))).trans rfl
     obtain ⟨hz0, hz1, hz2, hz3, hf0, hf1, hf2, hf3⟩ := cf4 (show W'.heap[gb526]? = some (.cells #[.int .i64 t519, .int .u64 t520, .string t521, .slice Ao22 t522.length co22] 26 (0, 0)) from hW.b2)
     refine op_value (v := .agg #[.int .i64 t519, .int .u64 t520, .string t521, .slice Ao22 t522.length co22]) (by go_simp) ⟨_, rfl, ?_, hW, fun j oj hoj hj he hD => LdP.D.keep (Below.refl _ _) (show 27 < a.tmps.size by omega) (by decide) j hj hD⟩
     exact (put_get (show 27 < a.tmps.size by omega)).trans (if_pos rfl)
    | 1, ho, hdep =>
     obtain rfl := Option.some.inj ho
     have e0 : a.tmps.getD 27 undef = .agg #[.int .i64 t519, .int .u64 t520, .string t521, .slice Ao22 t522.length co22] := hdep { on := 0, ground := .data } (Array.mem_of_getElem? (i := 0) rfl) rfl
     refine op_goes Tryd.func41 (by kernel_rfl) rfl #[.agg #[.int .i64 t519, .int .u64 t520, .string t521, .slice Ao22 t522.length co22], .int .i64 0] rfl (by simp [Act.eval, e0]) ?_
     refine (minstrelref19_part.callsP t519 t520 t521 (fun k_ => w.heap.size ≤ k_ ∧ k_ < w23.heap.size ∧ k_ ≠ gb513 ∧ k_ ≠ gb526 ∧ some k_ ≠ (.slice Ao17 t514.length co17 : Value).ownBlock) Ao22 co22 t522 0 t527 t528 t529 t530 W' ?_ A6.out).mono ?_
     · exact Kd.R_V hW.hc
     · rintro e W2 ⟨x, rfl, hv, hb⟩
       exact ⟨_, rfl, _, rfl, ⟨x, (put_get (show 28 < a.tmps.size by omega)).trans (if_pos rfl)⟩, hW.below hb, fun j oj hoj hj he hD => LdP.D.keep hb (show 28 < a.tmps.size by omega) (by decide) j hj hD⟩
    | 2, ho, hdep =>
     obtain rfl := Option.some.inj ho
     obtain ⟨x, e0⟩ := hdep { on := 1, ground := .data } (Array.mem_of_getElem? (i := 0) rfl) rfl
     replace e0 : a.tmps.getD 28 undef = .agg #[.int .i64 t527, .int .u64 t528, .string t529, x] := e0
     refine op_value (v := .int .u64 t528) (by first | (go_simp; done) | (go_simp; rfl)) ⟨_, rfl, ?_, hW, fun j oj hoj hj he hD => LdP.D.keep (Below.refl _ _) (show 29 < a.tmps.size by omega) (by decide) j hj hD⟩
     exact (put_get (show 29 < a.tmps.size by omega)).trans (if_pos rfl)
    | 3, ho, hdep =>
     obtain rfl := Option.some.inj ho
     have h7 : a.tmps.getD 7 undef = .pointer (some ⟨gb526, 0, none⟩) := (hout 7 (dst_out (by kernel_rfl))).trans rfl
     obtain ⟨hz0, hz1, hz2, hz3, hf0, hf1, hf2, hf3⟩ := cf4 (show W'.heap[gb526]? = some (.cells #[.int .i64 t519, .int .u64 t520, .string t521, .slice Ao22 t522.length co22] 26 (0, 0)) from hW.b2)
     refine op_value (v := .agg #[.int .i64 t519, .int .u64 t520, .string t521, .slice Ao22 t522.length co22]) (by go_simp) ⟨_, rfl, ?_, hW, fun j oj hoj hj he hD => LdP.D.keep (Below.refl _ _) (show 30 < a.tmps.size by omega) (by decide) j hj hD⟩
     exact (put_get (show 30 < a.tmps.size by omega)).trans (if_pos rfl)
    | 4, ho, hdep =>
     obtain rfl := Option.some.inj ho
     have e0 : a.tmps.getD 30 undef = .agg #[.int .i64 t519, .int .u64 t520, .string t521, .slice Ao22 t522.length co22] := hdep { on := 3, ground := .data } (Array.mem_of_getElem? (i := 0) rfl) rfl
     refine op_goes Tryd.func41 (by kernel_rfl) rfl #[.agg #[.int .i64 t519, .int .u64 t520, .string t521, .slice Ao22 t522.length co22], .int .i64 1] rfl (by simp [Act.eval, e0]) ?_
     refine (minstrelref19_part.callsP t519 t520 t521 (fun k_ => w.heap.size ≤ k_ ∧ k_ < w23.heap.size ∧ k_ ≠ gb513 ∧ k_ ≠ gb526 ∧ some k_ ≠ (.slice Ao17 t514.length co17 : Value).ownBlock) Ao22 co22 t522 1 t533 t534 t535 t536 W' ?_ A7.out).mono ?_
     · exact Kd.R_V hW.hc
     · rintro e W2 ⟨x, rfl, hv, hb⟩
       exact ⟨_, rfl, _, rfl, ⟨x, (put_get (show 31 < a.tmps.size by omega)).trans (if_pos rfl)⟩, hW.below hb, fun j oj hoj hj he hD => LdP.D.keep hb (show 31 < a.tmps.size by omega) (by decide) j hj hD⟩
    | 5, ho, hdep =>
     obtain rfl := Option.some.inj ho
     obtain ⟨x, e0⟩ := hdep { on := 4, ground := .data } (Array.mem_of_getElem? (i := 0) rfl) rfl
     replace e0 : a.tmps.getD 31 undef = .agg #[.int .i64 t533, .int .u64 t534, .string t535, x] := e0
     refine op_value (v := .int .u64 t534) (by first | (go_simp; done) | (go_simp; rfl)) ⟨_, rfl, ?_, hW, fun j oj hoj hj he hD => LdP.D.keep (Below.refl _ _) (show 32 < a.tmps.size by omega) (by decide) j hj hD⟩
     exact (put_get (show 32 < a.tmps.size by omega)).trans (if_pos rfl)
    | 6, ho, hdep =>
     obtain rfl := Option.some.inj ho
     have h7 : a.tmps.getD 7 undef = .pointer (some ⟨gb526, 0, none⟩) := (hout 7 (dst_out (by kernel_rfl))).trans rfl
     obtain ⟨hz0, hz1, hz2, hz3, hf0, hf1, hf2, hf3⟩ := cf4 (show W'.heap[gb526]? = some (.cells #[.int .i64 t519, .int .u64 t520, .string t521, .slice Ao22 t522.length co22] 26 (0, 0)) from hW.b2)
     refine op_value (v := .agg #[.int .i64 t519, .int .u64 t520, .string t521, .slice Ao22 t522.length co22]) (by go_simp) ⟨_, rfl, ?_, hW, fun j oj hoj hj he hD => LdP.D.keep (Below.refl _ _) (show 33 < a.tmps.size by omega) (by decide) j hj hD⟩
     exact (put_get (show 33 < a.tmps.size by omega)).trans (if_pos rfl)
    | 7, ho, hdep =>
     obtain rfl := Option.some.inj ho
     have e0 : a.tmps.getD 33 undef = .agg #[.int .i64 t519, .int .u64 t520, .string t521, .slice Ao22 t522.length co22] := hdep { on := 6, ground := .data } (Array.mem_of_getElem? (i := 0) rfl) rfl
     refine op_goes Tryd.func41 (by kernel_rfl) rfl #[.agg #[.int .i64 t519, .int .u64 t520, .string t521, .slice Ao22 t522.length co22], .int .i64 2] rfl (by simp [Act.eval, e0]) ?_
     refine (minstrelref19_part.callsP t519 t520 t521 (fun k_ => w.heap.size ≤ k_ ∧ k_ < w23.heap.size ∧ k_ ≠ gb513 ∧ k_ ≠ gb526 ∧ some k_ ≠ (.slice Ao17 t514.length co17 : Value).ownBlock) Ao22 co22 t522 2 t539 t540 t541 t542 W' ?_ A8.out).mono ?_
     · exact Kd.R_V hW.hc
     · rintro e W2 ⟨x, rfl, hv, hb⟩
       exact ⟨_, rfl, _, rfl, ⟨x, (put_get (show 34 < a.tmps.size by omega)).trans (if_pos rfl), hv⟩, hW.below hb, fun j oj hoj hj he hD => LdP.D.keep hb (show 34 < a.tmps.size by omega) (by decide) j hj hD⟩
    | 8, ho, hdep =>
     obtain rfl := Option.some.inj ho
     obtain ⟨x, e0, hv⟩ := hdep { on := 7, ground := .data } (Array.mem_of_getElem? (i := 0) rfl) rfl
     obtain ⟨Ax, cx, rfl⟩ := Kd.V_slice hv
     replace e0 : a.tmps.getD 34 undef = .agg #[.int .i64 t539, .int .u64 t540, .string t541, .slice Ax t542.length cx] := e0
     refine op_goes Tryd.func42 (by kernel_rfl) rfl #[.agg #[.int .i64 t539, .int .u64 t540, .string t541, .slice Ax t542.length cx]] rfl (by simp [Act.eval, e0]) ?_
     refine (minstrelref19_numbers.calls k t539 t540 t541 Ax cx t542 t545 W' (Kd.V_reads' hv).2.2 (Kd.V_reads' hv).2.1 A9.out).mono ?_
     rintro e W2 ⟨vm, rfl, hR, hb⟩
     refine ⟨_, rfl, _, rfl, ?_, hW.below hb, fun j oj hoj hj he hD => LdP.D.keep hb (show 35 < a.tmps.size by omega) (by decide) j hj hD⟩
     have hM : LdP.M ⟨w, w23.heap.size, gb513, gb526, .slice Ao17 t514.length co17, t514, .slice Ao22 t522.length co22, t522, #[.int .i64 t519, .int .u64 t520, .string t521, .slice Ao22 t522.length co22], ⟨t527, t528, t529, t530⟩, ⟨t533, t534, t535, t536⟩, ⟨t539, t540, t541, t542⟩, ⟨t548, t549, t550, t551⟩, ⟨t554, t555, t556, t557⟩, t545⟩ W2 vm := Kd.R_mono (Kd.R_lower (Kd.R_bound hR) hW.hb.size) (fun k hk => Nat.le_trans hW.hN hk.2.1)
     show LdP.M ⟨w, w23.heap.size, gb513, gb526, .slice Ao17 t514.length co17, t514, .slice Ao22 t522.length co22, t522, #[.int .i64 t519, .int .u64 t520, .string t521, .slice Ao22 t522.length co22], ⟨t527, t528, t529, t530⟩, ⟨t533, t534, t535, t536⟩, ⟨t539, t540, t541, t542⟩, ⟨t548, t549, t550, t551⟩, ⟨t554, t555, t556, t557⟩, t545⟩ W2 ((a.put (some 35) vm).tmps.getD 35 undef)
     rw [show (a.put (some 35) vm).tmps.getD 35 undef = vm from (put_get (show 35 < a.tmps.size by omega)).trans (if_pos rfl)]
     exact hM
    | 9, ho, hdep =>
     obtain rfl := Option.some.inj ho
     have h7 : a.tmps.getD 7 undef = .pointer (some ⟨gb526, 0, none⟩) := (hout 7 (dst_out (by kernel_rfl))).trans rfl
     obtain ⟨hz0, hz1, hz2, hz3, hf0, hf1, hf2, hf3⟩ := cf4 (show W'.heap[gb526]? = some (.cells #[.int .i64 t519, .int .u64 t520, .string t521, .slice Ao22 t522.length co22] 26 (0, 0)) from hW.b2)
     refine op_value (v := .agg #[.int .i64 t519, .int .u64 t520, .string t521, .slice Ao22 t522.length co22]) (by go_simp) ⟨_, rfl, ?_, hW, fun j oj hoj hj he hD => LdP.D.keep (Below.refl _ _) (show 36 < a.tmps.size by omega) (by decide) j hj hD⟩
     exact (put_get (show 36 < a.tmps.size by omega)).trans (if_pos rfl)
    | 10, ho, hdep =>
     obtain rfl := Option.some.inj ho
     have e0 : a.tmps.getD 36 undef = .agg #[.int .i64 t519, .int .u64 t520, .string t521, .slice Ao22 t522.length co22] := hdep { on := 9, ground := .data } (Array.mem_of_getElem? (i := 0) rfl) rfl
     refine op_goes Tryd.func41 (by kernel_rfl) rfl #[.agg #[.int .i64 t519, .int .u64 t520, .string t521, .slice Ao22 t522.length co22], .int .i64 3] rfl (by simp [Act.eval, e0]) ?_
     refine (minstrelref19_part.callsP t519 t520 t521 (fun k_ => w.heap.size ≤ k_ ∧ k_ < w23.heap.size ∧ k_ ≠ gb513 ∧ k_ ≠ gb526 ∧ some k_ ≠ (.slice Ao17 t514.length co17 : Value).ownBlock) Ao22 co22 t522 3 t548 t549 t550 t551 W' ?_ A10.out).mono ?_
     · exact Kd.R_V hW.hc
     · rintro e W2 ⟨x, rfl, hv, hb⟩
       exact ⟨_, rfl, _, rfl, ⟨x, (put_get (show 37 < a.tmps.size by omega)).trans (if_pos rfl), hv⟩, hW.below hb, fun j oj hoj hj he hD => LdP.D.keep hb (show 37 < a.tmps.size by omega) (by decide) j hj hD⟩
    | 11, ho, hdep =>
     obtain rfl := Option.some.inj ho
     have h7 : a.tmps.getD 7 undef = .pointer (some ⟨gb526, 0, none⟩) := (hout 7 (dst_out (by kernel_rfl))).trans rfl
     obtain ⟨hz0, hz1, hz2, hz3, hf0, hf1, hf2, hf3⟩ := cf4 (show W'.heap[gb526]? = some (.cells #[.int .i64 t519, .int .u64 t520, .string t521, .slice Ao22 t522.length co22] 26 (0, 0)) from hW.b2)
     refine op_value (v := .agg #[.int .i64 t519, .int .u64 t520, .string t521, .slice Ao22 t522.length co22]) (by go_simp) ⟨_, rfl, ?_, hW, fun j oj hoj hj he hD => LdP.D.keep (Below.refl _ _) (show 38 < a.tmps.size by omega) (by decide) j hj hD⟩
     exact (put_get (show 38 < a.tmps.size by omega)).trans (if_pos rfl)
    | 12, ho, hdep =>
     obtain rfl := Option.some.inj ho
     have e0 : a.tmps.getD 38 undef = .agg #[.int .i64 t519, .int .u64 t520, .string t521, .slice Ao22 t522.length co22] := hdep { on := 11, ground := .data } (Array.mem_of_getElem? (i := 0) rfl) rfl
     refine op_goes Tryd.func41 (by kernel_rfl) rfl #[.agg #[.int .i64 t519, .int .u64 t520, .string t521, .slice Ao22 t522.length co22], .int .i64 4] rfl (by simp [Act.eval, e0]) ?_
     refine (minstrelref19_part.callsP t519 t520 t521 (fun k_ => w.heap.size ≤ k_ ∧ k_ < w23.heap.size ∧ k_ ≠ gb513 ∧ k_ ≠ gb526 ∧ some k_ ≠ (.slice Ao17 t514.length co17 : Value).ownBlock) Ao22 co22 t522 4 t554 t555 t556 t557 W' ?_ A11.out).mono ?_
     · exact Kd.R_V hW.hc
     · rintro e W2 ⟨x, rfl, hv, hb⟩
       exact ⟨_, rfl, _, rfl, ⟨x, (put_get (show 39 < a.tmps.size by omega)).trans (if_pos rfl), hv⟩, hW.below hb, fun j oj hoj hj he hD => LdP.D.keep hb (show 39 < a.tmps.size by omega) (by decide) j hj hD⟩
    | 13, ho, hdep =>
     obtain rfl := Option.some.inj ho
     have e2 : a.tmps.getD 29 undef = .int .u64 t528 := (hdep { on := 2, ground := .data } (Array.mem_of_getElem? (i := 0) rfl) rfl)
     have e5 : a.tmps.getD 32 undef = .int .u64 t534 := (hdep { on := 5, ground := .data } (Array.mem_of_getElem? (i := 1) rfl) rfl)
     have hM := (hdep { on := 8, ground := .data } (Array.mem_of_getElem? (i := 2) rfl) rfl)
     obtain ⟨x, e10, hx⟩ := (hdep { on := 10, ground := .data } (Array.mem_of_getElem? (i := 3) rfl) rfl)
     obtain ⟨y, e12, hy⟩ := (hdep { on := 12, ground := .data } (Array.mem_of_getElem? (i := 4) rfl) rfl)
     replace hM : LdP.M ⟨w, w23.heap.size, gb513, gb526, .slice Ao17 t514.length co17, t514, .slice Ao22 t522.length co22, t522, #[.int .i64 t519, .int .u64 t520, .string t521, .slice Ao22 t522.length co22], ⟨t527, t528, t529, t530⟩, ⟨t533, t534, t535, t536⟩, ⟨t539, t540, t541, t542⟩, ⟨t548, t549, t550, t551⟩, ⟨t554, t555, t556, t557⟩, t545⟩ W' (a.tmps.getD 35 undef) := hM
     obtain ⟨vm, e8⟩ : ∃ vm, a.tmps.getD 35 undef = vm := ⟨_, rfl⟩
     rw [e8] at hM
     obtain ⟨Am, cm, rfl⟩ := Kd.R_slice hM
     replace e8 : a.tmps.getD 35 undef = .slice Am t545.length cm := e8
     replace e10 : a.tmps.getD 37 undef = .agg #[.int .i64 t548, .int .u64 t549, .string t550, x] := e10
     replace e12 : a.tmps.getD 39 undef = .agg #[.int .i64 t554, .int .u64 t555, .string t556, y] := e12
     refine op_value (v := .agg #[.int .u64 t528, .int .u64 t534, .slice Am t545.length cm, .int .i64 t548, .int .u64 t549, .string t550, x, .int .i64 t554, .int .u64 t555, .string t556, y]) ?_ ⟨_, rfl, ?_, hW, fun j oj hoj hj he hD => LdP.D.keep (Below.refl _ _) (show 40 < a.tmps.size by omega) (by decide) j hj hD⟩
     · have E2 : a.eval (.tmp 29) = .int .u64 t528 := e2
       have E5 : a.eval (.tmp 32) = .int .u64 t534 := e5
       have E8 : a.eval (.tmp 35) = .slice Am t545.length cm := e8
       have E10 : a.eval (.tmp 37) = .agg #[.int .i64 t548, .int .u64 t549, .string t550, x] := e10
       have E12 : a.eval (.tmp 39) = .agg #[.int .i64 t554, .int .u64 t555, .string t556, y] := e12
       clear e2 e5 e8 e10 e12 hdep
       generalize a.eval = f at E2 E5 E8 E10 E12 ⊢
       first | (go_simp; done) | (go_simp; rfl)
     ·exact ⟨_, x, y, (put_get (show 40 < a.tmps.size by omega)).trans (if_pos rfl), hM, hx, hy⟩
    | 14, ho, hdep =>
     obtain rfl := Option.some.inj ho
     refine op_new (w1 := W'.alloc (.cells LdZ 28 (0, 0))) (v := .pointer (some ⟨W'.heap.size, 0, none⟩)) (by first | (go_simp; done) | (go_simp; rfl)) ?_
     have hb := below_alloc (Below.refl W'.heap.size W') (.cells LdZ 28 (0, 0))
     refine ⟨_, rfl, ⟨W'.heap.size, (put_get (show 8 < a.tmps.size by omega)).trans (if_pos rfl), hW.hN, LdZ, rfl, blk_new W' _⟩, hW.below hb, fun j oj hoj hj he hD => ?_⟩
     by_cases h15 : j = 15
     · subst h15
       obtain rfl := Option.some.inj hoj
       exact absurd rfl (he { on := 14, ground := .data } (Array.mem_of_getElem? (i := 0) rfl) rfl)
     · exact LdP.D.keep2 hb (show 8 < a.tmps.size by omega) (by decide) j hj h15 hD
    | 15, ho, hdep =>
     obtain rfl := Option.some.inj ho
     obtain ⟨g, e14, hg, cs, hcs, hk⟩ := (hdep { on := 14, ground := .data } (Array.mem_of_getElem? (i := 0) rfl) rfl)
     obtain ⟨vm, x, y, e13, hM, hx, hy⟩ := (hdep { on := 13, ground := .data } (Array.mem_of_getElem? (i := 1) rfl) rfl)
     obtain ⟨Am, cm, rfl⟩ := Kd.R_slice hM
     obtain ⟨Ax, cx, rfl⟩ := Kd.V_slice hx
     obtain ⟨Ay, cy, rfl⟩ := Kd.V_slice hy
     replace e13 : a.tmps.getD 40 undef = .agg #[.int .u64 t528, .int .u64 t534, .slice Am t545.length cm, .int .i64 t548, .int .u64 t549, .string t550, .slice Ax t551.length cx, .int .i64 t554, .int .u64 t555, .string t556, .slice Ay t557.length cy] := e13
     replace e14 : a.tmps.getD 8 undef = .pointer (some ⟨g, 0, none⟩) := e14
     obtain ⟨c0, c1, c2, c3, c4, c5, c6, c7, c8, c9, c10, rfl⟩ : ∃ c0 c1 c2 c3 c4 c5 c6 c7 c8 c9 c10, cs = #[c0, c1, c2, c3, c4, c5, c6, c7, c8, c9, c10] := by
       obtain ⟨l⟩ := cs
       match l, hcs with
       | [a, b, c, d, e, f, g, h, i, j, k], _ => exact ⟨a, b, c, d, e, f, g, h, i, j, k, rfl⟩
     obtain ⟨hz0, hz1, hz2, hz3, hz4, hz5, hz6, hz7, hz8, hz9, hz10, hf0, hf1, hf2, hf3, hf4, hf5, hf6, hf7, hf8, hf9, hf10⟩ := cf11 hk
     refine op_skip (w1 := LdP.sets g [.int .u64 t528, .int .u64 t534, .slice Am t545.length cm, .int .i64 t548, .int .u64 t549, .string t550, .slice Ax t551.length cx, .int .i64 t554, .int .u64 t555, .string t556, .slice Ay t557.length cy] 0 W') ?_ ?_
     · have E13 : a.eval (.tmp 40) = .agg #[.int .u64 t528, .int .u64 t534, .slice Am t545.length cm, .int .i64 t548, .int .u64 t549, .string t550, .slice Ax t551.length cx, .int .i64 t554, .int .u64 t555, .string t556, .slice Ay t557.length cy] := e13
       have E14 : a.eval (.tmp 8) = .pointer (some ⟨g, 0, none⟩) := e14
       clear e13 hdep
       generalize a.eval = f at E13 E14 ⊢
       show _ = Result.ok Next.skip (((((((((((W'.setCell ⟨g, 0, none⟩ (.int .u64 t528)).setCell ⟨g, 1, none⟩ (.int .u64 t534)).setCell ⟨g, 2, none⟩ (.slice Am t545.length cm)).setCell ⟨g, 3, none⟩ (.int .i64 t548)).setCell ⟨g, 4, none⟩ (.int .u64 t549)).setCell ⟨g, 5, none⟩ (.string t550)).setCell ⟨g, 6, none⟩ (.slice Ax t551.length cx)).setCell ⟨g, 7, none⟩ (.int .i64 t554)).setCell ⟨g, 8, none⟩ (.int .u64 t555)).setCell ⟨g, 9, none⟩ (.string t556)).setCell ⟨g, 10, none⟩ (.slice Ay t557.length cy))
       first | (go_simp; done) | (go_simp; rfl)
     ·have hfin : LdP.setsA [.int .u64 t528, .int .u64 t534, .slice Am t545.length cm, .int .i64 t548, .int .u64 t549, .string t550, .slice Ax t551.length cx, .int .i64 t554, .int .u64 t555, .string t556, .slice Ay t557.length cy] 0 #[c0, c1, c2, c3, c4, c5, c6, c7, c8, c9, c10] = #[.int .u64 t528, .int .u64 t534, .slice Am t545.length cm, .int .i64 t548, .int .u64 t549, .string t550, .slice Ax t551.length cx, .int .i64 t554, .int .u64 t555, .string t556, .slice Ay t557.length cy] := by simp only [LdP.setsA, List.setIfInBounds_toArray, List.set_cons_zero, List.set_cons_succ]
      have hk2 := LdP.sets_blk [.int .u64 t528, .int .u64 t534, .slice Am t545.length cm, .int .i64 t548, .int .u64 t549, .string t550, .slice Ax t551.length cx, .int .i64 t554, .int .u64 t555, .string t556, .slice Ay t557.length cy] 0 _ _ hk
      rw [hfin] at hk2
      have hM2 := LdP.M.sets [.int .u64 t528, .int .u64 t534, .slice Am t545.length cm, .int .i64 t548, .int .u64 t549, .string t550, .slice Ax t551.length cx, .int .i64 t554, .int .u64 t555, .string t556, .slice Ay t557.length cy] 0 _ _ hk hM
      have hx2 := LdP.V.sets hg [.int .u64 t528, .int .u64 t534, .slice Am t545.length cm, .int .i64 t548, .int .u64 t549, .string t550, .slice Ax t551.length cx, .int .i64 t554, .int .u64 t555, .string t556, .slice Ay t557.length cy] 0 _ hx
      have hy2 := LdP.V.sets hg [.int .u64 t528, .int .u64 t534, .slice Am t545.length cm, .int .i64 t548, .int .u64 t549, .string t550, .slice Ax t551.length cx, .int .i64 t554, .int .u64 t555, .string t556, .slice Ay t557.length cy] 0 _ hy
      have hW2 := LdP.Wd.sets hg hN0 hN1 hN2 [.int .u64 t528, .int .u64 t534, .slice Am t545.length cm, .int .i64 t548, .int .u64 t549, .string t550, .slice Ax t551.length cx, .int .i64 t554, .int .u64 t555, .string t556, .slice Ay t557.length cy] 0 _ hW
      have hD2 := fun j hj hD => LdP.D.sets e14 hg hk [.int .u64 t528, .int .u64 t534, .slice Am t545.length cm, .int .i64 t548, .int .u64 t549, .string t550, .slice Ax t551.length cx, .int .i64 t554, .int .u64 t555, .string t556, .slice Ay t557.length cy] j hj hD
      generalize LdP.sets g [.int .u64 t528, .int .u64 t534, .slice Am t545.length cm, .int .i64 t548, .int .u64 t549, .string t550, .slice Ax t551.length cx, .int .i64 t554, .int .u64 t555, .string t556, .slice Ay t557.length cy] 0 W' = W2 at hk2 hM2 hx2 hy2 hW2 hD2 ⊢
      exact ⟨undef, rfl, ⟨g, _, _, _, e14, hg, hk2, hM2, hx2, hy2⟩, hW2, fun j oj hoj hj he hD => hD2 j hj hD⟩
    | i + 16, ho, hdep => exact absurd ho (by simp)
   case hend =>
    intro s aE wE hW hEq hs hD
    obtain ⟨gb560, vm, x, y, e8, hg, hk, hM, hx, hy⟩ := hD 15 (by decide)
    obtain ⟨Ao39, co39, rfl⟩ := Kd.R_slice hM
    obtain ⟨Ao38, co38, rfl⟩ := Kd.V_slice hx
    obtain ⟨Ao37, co37, rfl⟩ := Kd.V_slice hy
    have e14 : s 14 = .pointer (some ⟨gb560, 0, none⟩) := (hs 14 _ rfl).trans e8
    have hg' : w23.heap.size ≤ gb560 := hg
    have HO518 := am (Kd.R_mono (ok' := fun k_ => w.heap.size ≤ k_) hW.hx (fun k hk => hk.1))
    have HO524 := am (Kd.R_mono (ok' := fun k_ => w.heap.size ≤ k_ ∧ k_ ≠ gb526) hW.hc (fun k hk => ⟨hk.1, hk.2.2.2.1⟩))
    have HO547 : Aside0 (Kd.R (Kd.int .i64) 3 wE w.heap.size (fun k_ => (w.heap.size ≤ k_)) (.slice Ao39 t545.length co39) t545) := ⟨Kd.R_mono hM (fun k hk => Nat.le_trans hN0 hk)⟩
    have hap : ∀ k, k < w23.heap.size → some k ≠ (.slice Ao39 t545.length co39 : Value).ownBlock := fun k hk e_ => by
      have h1 : w23.heap.size ≤ k := hM.1 k e_.symm
      omega
    have HO553 : Aside0 (Kd.V k26 26 wE w.heap.size (fun k_ => ((w.heap.size ≤ k_) ∧ (some k_ ≠ (.slice Ao17 t514.length co17 : Value).ownBlock ∧ (some k_ ≠ (.slice Ao39 t545.length co39 : Value).ownBlock ∧ (k_ ≠ gb513 ∧ (k_ ≠ gb526 ∧ k_ ≠ gb560)))))) (.slice Ao38 t551.length co38) t551) := ⟨Kd.V_mono hx (fun k hk => ⟨hk.1, hk.2.2.2.2, hap k hk.2.1, hk.2.2.1, hk.2.2.2.1, by have h1 : k < w23.heap.size := hk.2.1; omega⟩)⟩
    have HO559 : Aside0 (Kd.V k26 26 wE w.heap.size (fun k_ => ((w.heap.size ≤ k_) ∧ (some k_ ≠ (.slice Ao17 t514.length co17 : Value).ownBlock ∧ (some k_ ≠ (.slice Ao39 t545.length co39 : Value).ownBlock ∧ (k_ ≠ gb513 ∧ (k_ ≠ gb526 ∧ k_ ≠ gb560)))))) (.slice Ao37 t557.length co37) t557) := ⟨Kd.V_mono hy (fun k hk => ⟨hk.1, hk.2.2.2.2, hap k hk.2.1, hk.2.2.1, hk.2.2.2.1, by have h1 : k < w23.heap.size := hk.2.1; omega⟩)⟩
    have BK513 : Aside0 (wE.heap[gb513]? = some (.cells #[.int .u64 0, .int .u64 0, .slice none 0 0, .int .i64 0, .int .u64 0, .string (⟨#[]⟩ : ByteArray), .slice none 0 0, .int .i64 0, .int .u64 0, .string (⟨#[]⟩ : ByteArray), .slice none 0 0] 28 (0, 0))) := ⟨hW.b1⟩
    have BK526 : Aside0 (wE.heap[gb526]? = some (.cells #[.int .i64 t519, .int .u64 t520, .string t521, .slice Ao22 t522.length co22] 26 (0, 0))) := ⟨hW.b2⟩
    have BK560 : Aside0 (wE.heap[gb560]? = some (.cells #[.int .u64 t528, .int .u64 t534, .slice Ao39 t545.length co39, .int .i64 t548, .int .u64 t549, .string t550, .slice Ao38 t551.length co38, .int .i64 t554, .int .u64 t555, .string t556, .slice Ao37 t557.length co37] 28 (0, 0))) := ⟨hk⟩
    have HB : Aside0 (Below w.heap.size w wE) := ⟨hW.hb⟩
    have NB513_560 : Aside0 (gb513 ≠ gb560) := ⟨by omega⟩
    have NB560_513 : Aside0 (gb560 ≠ gb513) := ⟨by omega⟩
    have NB526_560 : Aside0 (gb526 ≠ gb560) := ⟨by omega⟩
    have NB560_526 : Aside0 (gb560 ≠ gb526) := ⟨by omega⟩
    have GE560 : Aside0 (w.heap.size ≤ gb560) := ⟨by omega⟩
    have GW560 : Aside0 (w.heap.size ≤ gb560) := ⟨by omega⟩
    generalize hF : fillS s _ 0 _ = aF
    replace hF : fillS s [some 27, some 28, some 29, some 30, some 31, some 32, some 33, some 34, some 35, some 36, some 37, some 38, some 39, some 40, some 8, none] 0 _ = aF := hF
    simp only [fillS, Act.put, List.setIfInBounds_toArray, List.set_cons_zero, List.set_cons_succ, e14] at hF
    subst hF
    clear hW hEq hs hD hk hM hx hy hap
    by_cases c13 : t564 = 0
    ·rw [if_pos c13] at H
     have c13b0 : (t564 == 0) = true := beq_iff_eq.mpr c13
     have c13b1 : (t564 != 0) = false := bne_eq_false_iff_eq.mpr c13
     clear c13
     by_cases c14 : (strOfNums t561).toList = (strOfNums l0).toList
     ·rw [if_pos c14] at H
      have c14b0 : ((strOfNums t561).toList == (strOfNums l0).toList) = true := beq_iff_eq.mpr c14
      have c14b1 : ((strOfNums t561).toList != (strOfNums l0).toList) = false := bne_eq_false_iff_eq.mpr c14
      clear c14
      simp only [Option.some.injEq, Prod.mk.injEq] at H
      obtain ⟨rfl, rfl, rfl, rfl, rfl, rfl, rfl, rfl, rfl, rfl, rfl, rfl⟩ := H
      have hnb52 := NB560_513.out
      have hnc52 := NB513_560.out
      have hnb53 := NB560_526.out
      have hnc53 := NB526_560.out
      have q54 := cf11 BK560.out
      try go_wp2_with (first | ((with_reducible refine gate_callee (f := 11) rfl ?_); refine goesL_ (some 43) rfl rfl Tryd.func11 (by kernel_rfl) rfl #[.agg #[.int .u64 t528, .int .u64 t534, .slice Ao39 t545.length co39, .int .i64 t548, .int .u64 t549, .string t550, .slice Ao38 t551.length co38, .int .i64 t554, .int .u64 t555, .string t556, .slice Ao37 t557.length co37]] rfl pM ?_; (with_reducible refine (minstrelref19_Save.calls k t528 t534 _ _ t545 t548 t549 t550 (fun k_ => ((w.heap.size ≤ k_) ∧ (some k_ ≠ (.slice Ao17 t514.length co17 : Value).ownBlock ∧ (some k_ ≠ (.slice Ao39 t545.length co39 : Value).ownBlock ∧ (k_ ≠ gb513 ∧ (k_ ≠ gb526 ∧ k_ ≠ gb560)))))) _ _ t551 t554 t555 t556 (fun k_ => ((w.heap.size ≤ k_) ∧ (some k_ ≠ (.slice Ao17 t514.length co17 : Value).ownBlock ∧ (some k_ ≠ (.slice Ao39 t545.length co39 : Value).ownBlock ∧ (k_ ≠ gb513 ∧ (k_ ≠ gb526 ∧ k_ ≠ gb560)))))) _ _ t557 t561 t564 _ ?side1 ?side2 ?side3 ?side4 A12.out).mono ?_); (case side1 => repeat (first | exact (Kd.R_reads' HO547.out).2.2 | (with_reducible refine Kd.C_alloc ?_ _) | (with_reducible refine Kd.C_drewN ?_ _) | (with_reducible refine Kd.C_drew ?_))); (case side2 => exact (Kd.R_reads' HO547.out).2.1); (case side3 => exact HO553.out); (case side4 => exact HO559.out); rintro e w55 ⟨v562, rfl, ho0, hb⟩; refine ⟨_, rfl, ?_⟩; replace HO524 := am (Kd.R_below (pR HO524.out) hb); replace HO547 := am (Kd.R_below (pR HO547.out) hb); replace HO553 := am (Kd.V_elder' (pV HO553.out) (Kd.R_base ho0) hb); replace HO559 := am (Kd.V_elder' (pV HO559.out) (Kd.R_base ho0) hb); have HO563 := am (Kd.R_lower (Kd.R_new' (Kd.R_newM (M := fun k_ => (w.heap.size ≤ k_)) (Kd.R_mono (ok' := fun k_ => True) ho0 (fun _ hk_ => trivial)) (below_size pB) (fun k_ h_ => h_)) (Kd.R_lt (pR HO518.out))) (below_size pB)); replace HO518 := am (Kd.R_elder' (pR HO518.out) (Kd.R_base ho0) hb); replace BK513 := am (pkb BK513.out hb); replace BK526 := am (pkb BK526.out hb); replace BK560 := am (pkb BK560.out hb); replace HB := am (below_step pB hb); (try clear hb); (try clear hb2); (try clear hk); (try clear hi); (try clear ho0); (first | (have hcv56 := own_string (P := Tryd.prog) Tryd.underlying31 Tryd.underlying5 Tryd.underlying9 (Kd.own_of_R HO563.out)) | (have hcv56 := V_string (P := Tryd.prog) Tryd.underlying31 Tryd.underlying5 Tryd.underlying9 HO563.out)); (first | (have hcq57 := fun n_ : Nat => own_string (P := Tryd.prog) Tryd.underlying31 Tryd.underlying5 Tryd.underlying9 (Kd.own_of_R (Kd.R_drewN HO563.out n_))) | (have hcq57 := fun n_ : Nat => V_string (P := Tryd.prog) Tryd.underlying31 Tryd.underlying5 Tryd.underlying9 (Kd.V_drewN HO563.out n_)) | skip); have hcv58 := Kd.C_string (P := Tryd.prog) (A := A0) (c := c0) Tryd.underlying31 Tryd.underlying5 Tryd.underlying9 (Kd.C_below HR0.out HB.out); try have hcq59 := fun n_ : Nat => Kd.C_string (P := Tryd.prog) (A := A0) (c := c0) Tryd.underlying31 Tryd.underlying5 Tryd.underlying9 (Kd.C_drewN ((Kd.C_below HR0.out HB.out)) n_); have q60 := cf11 BK560.out; have q61 := cf11 BK513.out))
      refine bodyPost_ret (results_ct rfl _ _ gb513 28 #[.int .u64 t528, .int .u64 t534, .slice Ao39 t545.length co39, .int .i64 t548, .int .u64 t549, .string t550, .slice Ao38 t551.length co38, .int .i64 t554, .int .u64 t555, .string t556, .slice Ao37 t557.length co37] (0, 0) _ rfl (by (with_reducible repeat (first | refine blk_drewN ?_ _ | refine blk_drew ?_ | refine blk_alloc ?_ _)); refine blk_put (cs := #[.int .u64 t528, .int .u64 t534, .slice Ao39 t545.length co39, .int .i64 t548, .int .u64 t549, .string t550, .slice Ao38 t551.length co38, .int .i64 t554, .int .u64 t555, .string t556, .slice none 0 0]) ?_ 10 _ rfl; (with_reducible repeat (first | refine blk_drewN ?_ _ | refine blk_drew ?_ | refine blk_alloc ?_ _)); refine blk_put (cs := #[.int .u64 t528, .int .u64 t534, .slice Ao39 t545.length co39, .int .i64 t548, .int .u64 t549, .string t550, .slice Ao38 t551.length co38, .int .i64 t554, .int .u64 t555, .string (⟨#[]⟩ : ByteArray), .slice none 0 0]) ?_ 9 _ rfl; (with_reducible repeat (first | refine blk_drewN ?_ _ | refine blk_drew ?_ | refine blk_alloc ?_ _)); refine blk_put (cs := #[.int .u64 t528, .int .u64 t534, .slice Ao39 t545.length co39, .int .i64 t548, .int .u64 t549, .string t550, .slice Ao38 t551.length co38, .int .i64 t554, .int .u64 0, .string (⟨#[]⟩ : ByteArray), .slice none 0 0]) ?_ 8 _ rfl; (with_reducible repeat (first | refine blk_drewN ?_ _ | refine blk_drew ?_ | refine blk_alloc ?_ _)); refine blk_put (cs := #[.int .u64 t528, .int .u64 t534, .slice Ao39 t545.length co39, .int .i64 t548, .int .u64 t549, .string t550, .slice Ao38 t551.length co38, .int .i64 0, .int .u64 0, .string (⟨#[]⟩ : ByteArray), .slice none 0 0]) ?_ 7 _ rfl; (with_reducible repeat (first | refine blk_drewN ?_ _ | refine blk_drew ?_ | refine blk_alloc ?_ _)); refine blk_put (cs := #[.int .u64 t528, .int .u64 t534, .slice Ao39 t545.length co39, .int .i64 t548, .int .u64 t549, .string t550, .slice none 0 0, .int .i64 0, .int .u64 0, .string (⟨#[]⟩ : ByteArray), .slice none 0 0]) ?_ 6 _ rfl; (with_reducible repeat (first | refine blk_drewN ?_ _ | refine blk_drew ?_ | refine blk_alloc ?_ _)); refine blk_put (cs := #[.int .u64 t528, .int .u64 t534, .slice Ao39 t545.length co39, .int .i64 t548, .int .u64 t549, .string (⟨#[]⟩ : ByteArray), .slice none 0 0, .int .i64 0, .int .u64 0, .string (⟨#[]⟩ : ByteArray), .slice none 0 0]) ?_ 5 _ rfl; (with_reducible repeat (first | refine blk_drewN ?_ _ | refine blk_drew ?_ | refine blk_alloc ?_ _)); refine blk_put (cs := #[.int .u64 t528, .int .u64 t534, .slice Ao39 t545.length co39, .int .i64 t548, .int .u64 0, .string (⟨#[]⟩ : ByteArray), .slice none 0 0, .int .i64 0, .int .u64 0, .string (⟨#[]⟩ : ByteArray), .slice none 0 0]) ?_ 4 _ rfl; (with_reducible repeat (first | refine blk_drewN ?_ _ | refine blk_drew ?_ | refine blk_alloc ?_ _)); refine blk_put (cs := #[.int .u64 t528, .int .u64 t534, .slice Ao39 t545.length co39, .int .i64 0, .int .u64 0, .string (⟨#[]⟩ : ByteArray), .slice none 0 0, .int .i64 0, .int .u64 0, .string (⟨#[]⟩ : ByteArray), .slice none 0 0]) ?_ 3 _ rfl; (with_reducible repeat (first | refine blk_drewN ?_ _ | refine blk_drew ?_ | refine blk_alloc ?_ _)); refine blk_put (cs := #[.int .u64 t528, .int .u64 t534, .slice none 0 0, .int .i64 0, .int .u64 0, .string (⟨#[]⟩ : ByteArray), .slice none 0 0, .int .i64 0, .int .u64 0, .string (⟨#[]⟩ : ByteArray), .slice none 0 0]) ?_ 2 _ rfl; (with_reducible repeat (first | refine blk_drewN ?_ _ | refine blk_drew ?_ | refine blk_alloc ?_ _)); refine blk_put (cs := #[.int .u64 t528, .int .u64 0, .slice none 0 0, .int .i64 0, .int .u64 0, .string (⟨#[]⟩ : ByteArray), .slice none 0 0, .int .i64 0, .int .u64 0, .string (⟨#[]⟩ : ByteArray), .slice none 0 0]) ?_ 1 _ rfl; (with_reducible repeat (first | refine blk_drewN ?_ _ | refine blk_drew ?_ | refine blk_alloc ?_ _)); refine blk_put (cs := zS_) ?_ 0 _ rfl; (with_reducible repeat (first | refine blk_drewN ?_ _ | refine blk_drew ?_ | refine blk_alloc ?_ _)); exact BK513.out) Tryd.underlying28 rfl (by kernel_rfl)) rfl ?_
      exact ⟨_, _, _, pE, by (with_reducible repeat (first | apply Kd.R_alloc | apply Kd.R_drewN | apply Kd.R_drew)); exact Kd.R_mono (Kd.R_far (p := ⟨gb513, 10, none⟩) (Kd.R_far (p := ⟨gb513, 9, none⟩) (Kd.R_far (p := ⟨gb513, 8, none⟩) (Kd.R_far (p := ⟨gb513, 7, none⟩) (Kd.R_far (p := ⟨gb513, 6, none⟩) (Kd.R_far (p := ⟨gb513, 5, none⟩) (Kd.R_far (p := ⟨gb513, 4, none⟩) (Kd.R_far (p := ⟨gb513, 3, none⟩) (Kd.R_far (p := ⟨gb513, 2, none⟩) (Kd.R_far (p := ⟨gb513, 1, none⟩) (Kd.R_far (p := ⟨gb513, 0, none⟩) (Kd.R_types HO547.out BK513.out (by decide)) (fun _ hk => hk.2) (.int .u64 t528)) (fun _ hk => hk.2) (.int .u64 t534)) (fun _ hk => hk.2) (.slice Ao39 t545.length co39)) (fun _ hk => hk.2) (.int .i64 t548)) (fun _ hk => hk.2) (.int .u64 t549)) (fun _ hk => hk.2) (.string t550)) (fun _ hk => hk.2) (.slice Ao38 t551.length co38)) (fun _ hk => hk.2) (.int .i64 t554)) (fun _ hk => hk.2) (.int .u64 t555)) (fun _ hk => hk.2) (.string t556)) (fun _ hk => hk.2) (.slice Ao37 t557.length co37)) (fun _ hk => hk.1), by (with_reducible repeat (first | apply Kd.V_alloc | apply Kd.V_drewN | apply Kd.V_drew)); exact Kd.V_mono (Kd.V_far (p := ⟨gb513, 10, none⟩) (Kd.V_far (p := ⟨gb513, 9, none⟩) (Kd.V_far (p := ⟨gb513, 8, none⟩) (Kd.V_far (p := ⟨gb513, 7, none⟩) (Kd.V_far (p := ⟨gb513, 6, none⟩) (Kd.V_far (p := ⟨gb513, 5, none⟩) (Kd.V_far (p := ⟨gb513, 4, none⟩) (Kd.V_far (p := ⟨gb513, 3, none⟩) (Kd.V_far (p := ⟨gb513, 2, none⟩) (Kd.V_far (p := ⟨gb513, 1, none⟩) (Kd.V_far (p := ⟨gb513, 0, none⟩) (Kd.V_mono HO553.out (fun k_ hk => (⟨hk, hk.1.2.2.2.1⟩ : _ ∧ k_ ≠ gb513))) (fun _ hk => hk.2) (.int .u64 t528)) (fun _ hk => hk.2) (.int .u64 t534)) (fun _ hk => hk.2) (.slice Ao39 t545.length co39)) (fun _ hk => hk.2) (.int .i64 t548)) (fun _ hk => hk.2) (.int .u64 t549)) (fun _ hk => hk.2) (.string t550)) (fun _ hk => hk.2) (.slice Ao38 t551.length co38)) (fun _ hk => hk.2) (.int .i64 t554)) (fun _ hk => hk.2) (.int .u64 t555)) (fun _ hk => hk.2) (.string t556)) (fun _ hk => hk.2) (.slice Ao37 t557.length co37)) (fun _ hk => ⟨hk.1.1.1, hk.1.1.2.2.1⟩), by (with_reducible repeat (first | apply Kd.V_alloc | apply Kd.V_drewN | apply Kd.V_drew)); exact Kd.V_mono (Kd.V_far (p := ⟨gb513, 10, none⟩) (Kd.V_far (p := ⟨gb513, 9, none⟩) (Kd.V_far (p := ⟨gb513, 8, none⟩) (Kd.V_far (p := ⟨gb513, 7, none⟩) (Kd.V_far (p := ⟨gb513, 6, none⟩) (Kd.V_far (p := ⟨gb513, 5, none⟩) (Kd.V_far (p := ⟨gb513, 4, none⟩) (Kd.V_far (p := ⟨gb513, 3, none⟩) (Kd.V_far (p := ⟨gb513, 2, none⟩) (Kd.V_far (p := ⟨gb513, 1, none⟩) (Kd.V_far (p := ⟨gb513, 0, none⟩) (Kd.V_mono HO559.out (fun k_ hk => (⟨hk, hk.1.2.2.2.1⟩ : _ ∧ k_ ≠ gb513))) (fun _ hk => hk.2) (.int .u64 t528)) (fun _ hk => hk.2) (.int .u64 t534)) (fun _ hk => hk.2) (.slice Ao39 t545.length co39)) (fun _ hk => hk.2) (.int .i64 t548)) (fun _ hk => hk.2) (.int .u64 t549)) (fun _ hk => hk.2) (.string t550)) (fun _ hk => hk.2) (.slice Ao38 t551.length co38)) (fun _ hk => hk.2) (.int .i64 t554)) (fun _ hk => hk.2) (.int .u64 t555)) (fun _ hk => hk.2) (.string t556)) (fun _ hk => hk.2) (.slice Ao37 t557.length co37)) (fun _ hk => ⟨hk.1.1.1, hk.1.1.2.2.1⟩), pB⟩
     ·rw [if_neg c14] at H
      have c14b0 : ((strOfNums t561).toList == (strOfNums l0).toList) = false := beq_eq_false_iff_ne.mpr c14
      have c14b1 : ((strOfNums t561).toList != (strOfNums l0).toList) = true := bne_iff_ne.mpr c14
      simp only [Option.some.injEq, Prod.mk.injEq] at H
      obtain ⟨rfl, rfl, rfl, rfl, rfl, rfl, rfl, rfl, rfl, rfl, rfl, rfl⟩ := H
      have hnb99 := NB560_513.out
      have hnc99 := NB513_560.out
      have hnb100 := NB560_526.out
      have hnc100 := NB526_560.out
      have q101 := cf11 BK560.out
      try go_wp2_with (first | ((with_reducible refine gate_callee (f := 11) rfl ?_); refine goesL_ (some 43) rfl rfl Tryd.func11 (by kernel_rfl) rfl #[.agg #[.int .u64 t528, .int .u64 t534, .slice Ao39 t545.length co39, .int .i64 t548, .int .u64 t549, .string t550, .slice Ao38 t551.length co38, .int .i64 t554, .int .u64 t555, .string t556, .slice Ao37 t557.length co37]] rfl pM ?_; (with_reducible refine (minstrelref19_Save.calls k t528 t534 _ _ t545 t548 t549 t550 (fun k_ => ((w.heap.size ≤ k_) ∧ (some k_ ≠ (.slice Ao17 t514.length co17 : Value).ownBlock ∧ (some k_ ≠ (.slice Ao39 t545.length co39 : Value).ownBlock ∧ (k_ ≠ gb513 ∧ (k_ ≠ gb526 ∧ k_ ≠ gb560)))))) _ _ t551 t554 t555 t556 (fun k_ => ((w.heap.size ≤ k_) ∧ (some k_ ≠ (.slice Ao17 t514.length co17 : Value).ownBlock ∧ (some k_ ≠ (.slice Ao39 t545.length co39 : Value).ownBlock ∧ (k_ ≠ gb513 ∧ (k_ ≠ gb526 ∧ k_ ≠ gb560)))))) _ _ t557 t561 t564 _ ?side1 ?side2 ?side3 ?side4 A12.out).mono ?_); (case side1 => repeat (first | exact (Kd.R_reads' HO547.out).2.2 | (with_reducible refine Kd.C_alloc ?_ _) | (with_reducible refine Kd.C_drewN ?_ _) | (with_reducible refine Kd.C_drew ?_))); (case side2 => exact (Kd.R_reads' HO547.out).2.1); (case side3 => exact HO553.out); (case side4 => exact HO559.out); rintro e w102 ⟨v562, rfl, ho0, hb⟩; refine ⟨_, rfl, ?_⟩; replace HO524 := am (Kd.R_below (pR HO524.out) hb); replace HO547 := am (Kd.R_below (pR HO547.out) hb); replace HO553 := am (Kd.V_elder' (pV HO553.out) (Kd.R_base ho0) hb); replace HO559 := am (Kd.V_elder' (pV HO559.out) (Kd.R_base ho0) hb); have HO563 := am (Kd.R_lower (Kd.R_new' (Kd.R_newM (M := fun k_ => (w.heap.size ≤ k_)) (Kd.R_mono (ok' := fun k_ => True) ho0 (fun _ hk_ => trivial)) (below_size pB) (fun k_ h_ => h_)) (Kd.R_lt (pR HO518.out))) (below_size pB)); replace HO518 := am (Kd.R_elder' (pR HO518.out) (Kd.R_base ho0) hb); replace BK513 := am (pkb BK513.out hb); replace BK526 := am (pkb BK526.out hb); replace BK560 := am (pkb BK560.out hb); replace HB := am (below_step pB hb); (try clear hb); (try clear hb2); (try clear hk); (try clear hi); (try clear ho0); (first | (have hcv103 := own_string (P := Tryd.prog) Tryd.underlying31 Tryd.underlying5 Tryd.underlying9 (Kd.own_of_R HO563.out)) | (have hcv103 := V_string (P := Tryd.prog) Tryd.underlying31 Tryd.underlying5 Tryd.underlying9 HO563.out)); (first | (have hcq104 := fun n_ : Nat => own_string (P := Tryd.prog) Tryd.underlying31 Tryd.underlying5 Tryd.underlying9 (Kd.own_of_R (Kd.R_drewN HO563.out n_))) | (have hcq104 := fun n_ : Nat => V_string (P := Tryd.prog) Tryd.underlying31 Tryd.underlying5 Tryd.underlying9 (Kd.V_drewN HO563.out n_)) | skip); have hcv105 := Kd.C_string (P := Tryd.prog) (A := A0) (c := c0) Tryd.underlying31 Tryd.underlying5 Tryd.underlying9 (Kd.C_below HR0.out HB.out); try have hcq106 := fun n_ : Nat => Kd.C_string (P := Tryd.prog) (A := A0) (c := c0) Tryd.underlying31 Tryd.underlying5 Tryd.underlying9 (Kd.C_drewN ((Kd.C_below HR0.out HB.out)) n_); have q107 := cf11 BK513.out))
      refine bodyPost_ret (results_ct rfl _ _ gb513 28 #[.int .u64 0, .int .u64 0, .slice none 0 0, .int .i64 0, .int .u64 0, .string (⟨#[]⟩ : ByteArray), .slice none 0 0, .int .i64 0, .int .u64 0, .string (⟨#[]⟩ : ByteArray), .slice none 0 0] (0, 0) _ rfl (by (iterate 11 ((with_reducible repeat (first | refine blk_drewN ?_ _ | refine blk_drew ?_ | refine blk_alloc ?_ _)); refine blk_put (cs := zS_) ?_ _ _ rfl)); (with_reducible repeat (first | refine blk_drewN ?_ _ | refine blk_drew ?_ | refine blk_alloc ?_ _)); exact BK513.out) Tryd.underlying28 rfl (by kernel_rfl)) rfl ?_
      exact ⟨_, _, _, pE, pZ, pZ, pZ, pB⟩
    ·rw [if_neg c13] at H
     have c13b0 : (t564 == 0) = false := beq_eq_false_iff_ne.mpr c13
     have c13b1 : (t564 != 0) = true := bne_iff_ne.mpr c13
     simp only [Option.some.injEq, Prod.mk.injEq] at H
     obtain ⟨rfl, rfl, rfl, rfl, rfl, rfl, rfl, rfl, rfl, rfl, rfl, rfl⟩ := H
     have hnb145 := NB560_513.out
     have hnc145 := NB513_560.out
     have hnb146 := NB560_526.out
     have hnc146 := NB526_560.out
     have q147 := cf11 BK560.out
     try go_wp2_with (first | ((with_reducible refine gate_callee (f := 11) rfl ?_); refine goesL_ (some 43) rfl rfl Tryd.func11 (by kernel_rfl) rfl #[.agg #[.int .u64 t528, .int .u64 t534, .slice Ao39 t545.length co39, .int .i64 t548, .int .u64 t549, .string t550, .slice Ao38 t551.length co38, .int .i64 t554, .int .u64 t555, .string t556, .slice Ao37 t557.length co37]] rfl pM ?_; (with_reducible refine (minstrelref19_Save.calls k t528 t534 _ _ t545 t548 t549 t550 (fun k_ => ((w.heap.size ≤ k_) ∧ (some k_ ≠ (.slice Ao17 t514.length co17 : Value).ownBlock ∧ (some k_ ≠ (.slice Ao39 t545.length co39 : Value).ownBlock ∧ (k_ ≠ gb513 ∧ (k_ ≠ gb526 ∧ k_ ≠ gb560)))))) _ _ t551 t554 t555 t556 (fun k_ => ((w.heap.size ≤ k_) ∧ (some k_ ≠ (.slice Ao17 t514.length co17 : Value).ownBlock ∧ (some k_ ≠ (.slice Ao39 t545.length co39 : Value).ownBlock ∧ (k_ ≠ gb513 ∧ (k_ ≠ gb526 ∧ k_ ≠ gb560)))))) _ _ t557 t561 t564 _ ?side1 ?side2 ?side3 ?side4 A12.out).mono ?_); (case side1 => repeat (first | exact (Kd.R_reads' HO547.out).2.2 | (with_reducible refine Kd.C_alloc ?_ _) | (with_reducible refine Kd.C_drewN ?_ _) | (with_reducible refine Kd.C_drew ?_))); (case side2 => exact (Kd.R_reads' HO547.out).2.1); (case side3 => exact HO553.out); (case side4 => exact HO559.out); rintro e w148 ⟨v562, rfl, ho0, hb⟩; refine ⟨_, rfl, ?_⟩; replace HO524 := am (Kd.R_below (pR HO524.out) hb); replace HO547 := am (Kd.R_below (pR HO547.out) hb); replace HO553 := am (Kd.V_elder' (pV HO553.out) (Kd.R_base ho0) hb); replace HO559 := am (Kd.V_elder' (pV HO559.out) (Kd.R_base ho0) hb); have HO563 := am (Kd.R_lower (Kd.R_new' (Kd.R_newM (M := fun k_ => (w.heap.size ≤ k_)) (Kd.R_mono (ok' := fun k_ => True) ho0 (fun _ hk_ => trivial)) (below_size pB) (fun k_ h_ => h_)) (Kd.R_lt (pR HO518.out))) (below_size pB)); replace HO518 := am (Kd.R_elder' (pR HO518.out) (Kd.R_base ho0) hb); replace BK513 := am (pkb BK513.out hb); replace BK526 := am (pkb BK526.out hb); replace BK560 := am (pkb BK560.out hb); replace HB := am (below_step pB hb); (try clear hb); (try clear hb2); (try clear hk); (try clear hi); (try clear ho0); have q149 := cf11 BK513.out))
     refine bodyPost_ret (results_ct rfl _ _ gb513 28 #[.int .u64 0, .int .u64 0, .slice none 0 0, .int .i64 0, .int .u64 0, .string (⟨#[]⟩ : ByteArray), .slice none 0 0, .int .i64 0, .int .u64 0, .string (⟨#[]⟩ : ByteArray), .slice none 0 0] (0, 0) _ rfl (by (iterate 11 ((with_reducible repeat (first | refine blk_drewN ?_ _ | refine blk_drew ?_ | refine blk_alloc ?_ _)); refine blk_put (cs := zS_) ?_ _ _ rfl)); (with_reducible repeat (first | refine blk_drewN ?_ _ | refine blk_drew ?_ | refine blk_alloc ?_ _)); exact BK513.out) Tryd.underlying28 rfl (by kernel_rfl)) rfl ?_
     exact ⟨_, _, _, pE, pZ, pZ, pZ, pB⟩
  ·rw [if_neg c5] at H
   have c5b0 : (t525 == 0) = false := beq_eq_false_iff_ne.mpr c5
   have c5b1 : (t525 != 0) = true := bne_iff_ne.mpr c5
   simp only [Option.some.injEq, Prod.mk.injEq] at H
   obtain ⟨rfl, rfl, rfl, rfl, rfl, rfl, rfl, rfl, rfl, rfl, rfl, rfl⟩ := H
   go_enter Tryd.func16, Tryd.ntmps16
   go_wp2_with (first | ((with_reducible refine gate_dst (N := 2) rfl ?_); refine box_event ?hg (N := 2) ?hd (cs := zS_) (t := 28) ?hr ?_; (case hd => rfl); (case hg => rfl); (case hr => first | (go_simp; done) | (go_simp; rfl)); intro gb513 hg w150 hbox hb; have BK513 := am (hbox); have GW513 := am ((by rw [hg]; exact (below_size pB) : w.heap.size ≤ gb513)); have GE513 := am ((by rw [hg]; exact (below_size pB) : w.heap.size ≤ gb513)); replace HB := am (below_step pB hb); clear hb hbox hg) | ((with_reducible refine gate_callee (f := 39) rfl ?_); refine goesL_ (some 12) rfl rfl Tryd.func39 (by kernel_rfl) rfl #[.slice A0 l0.length c0] rfl pM ?_; (with_reducible refine (minstrelref06_First.calls _ _ l0 t514 t515 t516 _ ?side1 ?side2 A2.out).mono ?_); (case side1 => exact pC (Kd.C_below HR0.out HB.out)); (case side2 => exact HC0.out); rintro e w151 ⟨v517, rfl, ho0, hb⟩; refine ⟨_, rfl, ?_⟩; have HO518 := am (Kd.R_lower (Kd.R_newM (M := fun k_ => (w.heap.size ≤ k_)) ho0 (below_size pB) (fun k_ h_ => h_)) (below_size pB)); replace BK513 := am (pkb BK513.out hb); replace HB := am (below_step pB hb); (try clear hb); (try clear hb2); (try clear hk); (try clear hi); (try clear ho0); obtain ⟨Ao152, co152, eo152⟩ := Kd.R_slice HO518.out; subst eo152) | ((with_reducible refine gate_callee (f := 40) rfl ?_); refine goesL_ (some 21) rfl rfl Tryd.func40 (by kernel_rfl) rfl #[.slice Ao152 t514.length co152] rfl pM ?_; (with_reducible refine (minstrelref07_Decode.calls k _ _ t514 t519 t520 t521 t522 t525 _ ?side1 ?side2 A4.out).mono ?_); (case side1 => repeat (first | exact (Kd.R_reads' HO518.out).2.2 | (with_reducible refine Kd.C_alloc ?_ _) | (with_reducible refine Kd.C_drewN ?_ _) | (with_reducible refine Kd.C_drew ?_))); (case side2 => exact (Kd.R_reads' HO518.out).2.1); rintro e w153 ⟨v523, rfl, ho0, hb⟩; refine ⟨_, rfl, ?_⟩; replace HO518 := am (Kd.R_below (pR HO518.out) hb); have HO524 := am (Kd.R_lower (Kd.R_newM (M := fun k_ => (w.heap.size ≤ k_)) ho0 (below_size pB) (fun k_ h_ => h_)) (below_size pB)); replace BK513 := am (pkb BK513.out hb); replace HB := am (below_step pB hb); (try clear hb); (try clear hb2); (try clear hk); (try clear hi); (try clear ho0)) | ((with_reducible refine gate_dst (N := 7) rfl ?_); refine box_event ?hg (N := 7) ?hd (cs := #[.int .i64 0, .int .u64 0, .string (⟨#[]⟩ : ByteArray), .slice none 0 0]) (t := 26) ?hr ?_; (case hd => rfl); (case hg => rfl); (case hr => first | (go_simp; done) | (go_simp; rfl)); intro gb526 hg w154 hbox hb; replace HO518 := am (Kd.R_below (pR HO518.out) hb); replace HO524 := am (Kd.R_below (Kd.R_elderB (pR HO524.out) gb526 (Nat.le_of_eq hg.symm)) hb); have BK526 := am (hbox); have GW526 := am ((by rw [hg]; exact (below_size pB) : w.heap.size ≤ gb526)); have GE526 := am ((by rw [hg]; exact (below_size pB) : w.heap.size ≤ gb526)); have NB513_526 := am ((by rw [hg]; exact Nat.ne_of_lt (pkl BK513.out) : gb513 ≠ gb526)); have NB526_513 := am ((by rw [hg]; exact Nat.ne_of_gt (pkl BK513.out) : gb526 ≠ gb513)); replace BK513 := am (pkb BK513.out hb); replace HB := am (below_step pB hb); clear hb hbox hg; have hnb155 := NB526_513.out; have hnc155 := NB513_526.out; have q156 := cf4 BK526.out; obtain ⟨Ao157, co157, eo157⟩ := Kd.R_slice HO524.out; subst eo157; have q158 := cf11 BK513.out))
   refine bodyPost_ret (results_ct rfl _ _ gb513 28 #[.int .u64 0, .int .u64 0, .slice none 0 0, .int .i64 0, .int .u64 0, .string (⟨#[]⟩ : ByteArray), .slice none 0 0, .int .i64 0, .int .u64 0, .string (⟨#[]⟩ : ByteArray), .slice none 0 0] (0, 0) _ rfl (by (iterate 11 ((with_reducible repeat (first | refine blk_drewN ?_ _ | refine blk_drew ?_ | refine blk_alloc ?_ _)); refine blk_put (cs := zS_) ?_ _ _ rfl)); (with_reducible repeat (first | refine blk_drewN ?_ _ | refine blk_drew ?_ | refine blk_alloc ?_ _)); refine blk_far ?_ NB513_526.out _; (with_reducible repeat (first | refine blk_drewN ?_ _ | refine blk_drew ?_ | refine blk_alloc ?_ _)); refine blk_far ?_ NB513_526.out _; (with_reducible repeat (first | refine blk_drewN ?_ _ | refine blk_drew ?_ | refine blk_alloc ?_ _)); refine blk_far ?_ NB513_526.out _; (with_reducible repeat (first | refine blk_drewN ?_ _ | refine blk_drew ?_ | refine blk_alloc ?_ _)); refine blk_far ?_ NB513_526.out _; (with_reducible repeat (first | refine blk_drewN ?_ _ | refine blk_drew ?_ | refine blk_alloc ?_ _)); exact BK513.out) Tryd.underlying28 rfl (by kernel_rfl)) rfl ?_
   exact ⟨_, _, _, pE, pZ, pZ, pZ, pB⟩
 ·rw [if_neg c3] at H
  have c3b0 : (t516 == 0) = false := beq_eq_false_iff_ne.mpr c3
  have c3b1 : (t516 != 0) = true := bne_iff_ne.mpr c3
  simp only [Option.some.injEq, Prod.mk.injEq] at H
  obtain ⟨rfl, rfl, rfl, rfl, rfl, rfl, rfl, rfl, rfl, rfl, rfl, rfl⟩ := H
  go_enter Tryd.func16, Tryd.ntmps16
  go_wp2_with (first | ((with_reducible refine gate_dst (N := 2) rfl ?_); refine box_event ?hg (N := 2) ?hd (cs := zS_) (t := 28) ?hr ?_; (case hd => rfl); (case hg => rfl); (case hr => first | (go_simp; done) | (go_simp; rfl)); intro gb513 hg w159 hbox hb; have BK513 := am (hbox); have GW513 := am ((by rw [hg]; exact (below_size pB) : w.heap.size ≤ gb513)); have GE513 := am ((by rw [hg]; exact (below_size pB) : w.heap.size ≤ gb513)); replace HB := am (below_step pB hb); clear hb hbox hg) | ((with_reducible refine gate_callee (f := 39) rfl ?_); refine goesL_ (some 12) rfl rfl Tryd.func39 (by kernel_rfl) rfl #[.slice A0 l0.length c0] rfl pM ?_; (with_reducible refine (minstrelref06_First.calls _ _ l0 t514 t515 t516 _ ?side1 ?side2 A2.out).mono ?_); (case side1 => exact pC (Kd.C_below HR0.out HB.out)); (case side2 => exact HC0.out); rintro e w160 ⟨v517, rfl, ho0, hb⟩; refine ⟨_, rfl, ?_⟩; have HO518 := am (Kd.R_lower (Kd.R_newM (M := fun k_ => (w.heap.size ≤ k_)) ho0 (below_size pB) (fun k_ h_ => h_)) (below_size pB)); replace BK513 := am (pkb BK513.out hb); replace HB := am (below_step pB hb); (try clear hb); (try clear hb2); (try clear hk); (try clear hi); (try clear ho0); have q161 := cf11 BK513.out))
  refine bodyPost_ret (results_ct rfl _ _ gb513 28 #[.int .u64 0, .int .u64 0, .slice none 0 0, .int .i64 0, .int .u64 0, .string (⟨#[]⟩ : ByteArray), .slice none 0 0, .int .i64 0, .int .u64 0, .string (⟨#[]⟩ : ByteArray), .slice none 0 0] (0, 0) _ rfl (by (iterate 11 ((with_reducible repeat (first | refine blk_drewN ?_ _ | refine blk_drew ?_ | refine blk_alloc ?_ _)); refine blk_put (cs := zS_) ?_ _ _ rfl)); (with_reducible repeat (first | refine blk_drewN ?_ _ | refine blk_drew ?_ | refine blk_alloc ?_ _)); exact BK513.out) Tryd.underlying28 rfl (by kernel_rfl)) rfl ?_
  exact ⟨_, _, _, pE, pZ, pZ, pZ, pB⟩
end Go.Proofs.YtlkaffbgekbcfaaDoor.Pr
end
section
namespace Go.Proofs.YtlkaffbgekbcfaaDoor.Pr
open Go.RowKit Go.Proofs.YtlkaffbgekbcfaaDoorW.PrintWords Go.Proofs.YtlkaffbgekbcfaaDoorW.PrintLast Go.Proofs.YtlkaffbgekbcfaaDoorW.PrintMore
attribute [local go_sem] max2_int min2_int max_two min_two max_three min_three max_four min_four
def minstrellaw19_SnapLoads.f (k : Nat) (l0 : List Int) : Option (Bool) := (some (([] : List Int) : List Int)).bind fun y565 => (if y565.length + l0.length < 140737488355328 then ((snap_Load.f k (y565 ++ l0)).bind fun bt571 => ((minstrelref19_Load.f k l0).bind fun bt590 => (if bt571.2.2.2.2.2.2.2.2.2.2.2 = bt590.2.2.2.2.2.2.2.2.2.2.2 then ((minstrelref19_Snaps.f k bt571.1 bt571.2.1 bt571.2.2.1 bt571.2.2.2.1 bt571.2.2.2.2.1 bt571.2.2.2.2.2.1 bt571.2.2.2.2.2.2.1 bt571.2.2.2.2.2.2.2.1 bt571.2.2.2.2.2.2.2.2.1 bt571.2.2.2.2.2.2.2.2.2.1 bt571.2.2.2.2.2.2.2.2.2.2.1 bt590.1 bt590.2.1 bt590.2.2.1 bt590.2.2.2.1 bt590.2.2.2.2.1 bt590.2.2.2.2.2.1 bt590.2.2.2.2.2.2.1 bt590.2.2.2.2.2.2.2.1 bt590.2.2.2.2.2.2.2.2.1 bt590.2.2.2.2.2.2.2.2.2.1 bt590.2.2.2.2.2.2.2.2.2.2.1).bind fun t609 => (if t609 = true then ((minstrellaw19_lives.f k).bind fun t610 => (some t610)) else (none))) else (none)))) else (none))
theorem minstrellaw19_SnapLoads.mono : ∀ a0 k, LeO (minstrellaw19_SnapLoads.f k a0) (minstrellaw19_SnapLoads.f (k + 1) a0) := by
 intro a0 k
 unfold minstrellaw19_SnapLoads.f
 repeat' first
   | (with_reducible exact minstrellaw19_lives.mono _)
   | (with_reducible exact minstrelref19_Load.mono _ _)
   | (with_reducible exact minstrelref19_Snaps.mono _ _ _ _ _ _ _ _ _ _ _ _ _ _ _ _ _ _ _ _ _ _ _)
   | (with_reducible exact snap_Load.mono _ _)
   | (with_reducible exact LeO.refl _)
   | (with_reducible exact LeO.none _)
   | (with_reducible refine LeO.ite ?_ ?_)
   | (with_reducible refine LeO.bind ?_ (fun _ => ?_))
   | exact minstrellaw19_lives.mono _
   | exact minstrelref19_Load.mono _ _
   | exact minstrelref19_Snaps.mono _ _ _ _ _ _ _ _ _ _ _ _ _ _ _ _ _ _ _ _ _ _ _
   | exact snap_Load.mono _ _
   | exact LeO.none _
   | refine LeO.ite ?_ ?_
   | refine LeO.bind ?_ (fun _ => ?_)
set_option maxHeartbeats 8000000 in
set_option maxRecDepth 100000 in
theorem minstrellaw19_SnapLoads.calls (k : Nat) (A0 : Option Addr) (c0 : Nat) (l0 : List Int) (r : Bool) (w : World) (hr0 : Kd.C (Kd.int .u8) w A0 l0.length l0) (hc0 : l0.length ≤ c0) (hG : QuarterLaid w) (h : minstrellaw19_SnapLoads.f k l0 = some r) :
  Calls Tryd.prog 4 #[.slice A0 l0.length c0] w fun e w' => e = .returned (.bool r) ∧ Below w.heap.size w w' := by
 have hu28 := Tryd.underlying28
 have HR0 := am hr0
 have HC0 := am hc0
 clear hr0 hc0
 have HG := am hG
 clear hG
 have HB := am (Below.refl w.heap.size w)
 have H : ((some (([] : List Int) : List Int)).bind fun y565 => (if y565.length + l0.length < 140737488355328 then ((snap_Load.f k (y565 ++ l0)).bind fun bt571 => ((minstrelref19_Load.f k l0).bind fun bt590 => (if bt571.2.2.2.2.2.2.2.2.2.2.2 = bt590.2.2.2.2.2.2.2.2.2.2.2 then ((minstrelref19_Snaps.f k bt571.1 bt571.2.1 bt571.2.2.1 bt571.2.2.2.1 bt571.2.2.2.2.1 bt571.2.2.2.2.2.1 bt571.2.2.2.2.2.2.1 bt571.2.2.2.2.2.2.2.1 bt571.2.2.2.2.2.2.2.2.1 bt571.2.2.2.2.2.2.2.2.2.1 bt571.2.2.2.2.2.2.2.2.2.2.1 bt590.1 bt590.2.1 bt590.2.2.1 bt590.2.2.2.1 bt590.2.2.2.2.1 bt590.2.2.2.2.2.1 bt590.2.2.2.2.2.2.1 bt590.2.2.2.2.2.2.2.1 bt590.2.2.2.2.2.2.2.2.1 bt590.2.2.2.2.2.2.2.2.2.1 bt590.2.2.2.2.2.2.2.2.2.2.1).bind fun t609 => (if t609 = true then ((minstrellaw19_lives.f k).bind fun t610 => (some t610)) else (none))) else (none)))) else (none))) = some r := h
 clear h
 obtain ⟨y565, hy565⟩ : ∃ y_ : List Int, y_ = (([] : List Int)) := ⟨_, rfl⟩
 replace H : (if y565.length + l0.length < 140737488355328 then ((snap_Load.f k (y565 ++ l0)).bind fun bt571 => ((minstrelref19_Load.f k l0).bind fun bt590 => (if bt571.2.2.2.2.2.2.2.2.2.2.2 = bt590.2.2.2.2.2.2.2.2.2.2.2 then ((minstrelref19_Snaps.f k bt571.1 bt571.2.1 bt571.2.2.1 bt571.2.2.2.1 bt571.2.2.2.2.1 bt571.2.2.2.2.2.1 bt571.2.2.2.2.2.2.1 bt571.2.2.2.2.2.2.2.1 bt571.2.2.2.2.2.2.2.2.1 bt571.2.2.2.2.2.2.2.2.2.1 bt571.2.2.2.2.2.2.2.2.2.2.1 bt590.1 bt590.2.1 bt590.2.2.1 bt590.2.2.2.1 bt590.2.2.2.2.1 bt590.2.2.2.2.2.1 bt590.2.2.2.2.2.2.1 bt590.2.2.2.2.2.2.2.1 bt590.2.2.2.2.2.2.2.2.1 bt590.2.2.2.2.2.2.2.2.2.1 bt590.2.2.2.2.2.2.2.2.2.2.1).bind fun t609 => (if t609 = true then ((minstrellaw19_lives.f k).bind fun t610 => (some t610)) else (none))) else (none)))) else (none)) = some r := by first | (rw [hy565]; with_reducible exact H) | (have H2_ := (Option.bind_some _ _).symm.trans H; rw [hy565]; with_reducible exact H2_) | (have H2_ := (Option.bind_some _ _).symm.trans H; with_reducible exact H2_) | with_reducible exact H | (rw [hy565]; exact H) | exact H
 have Ny565 := am hy565
 clear hy565
 by_cases c2 : y565.length + l0.length < 140737488355328
 ·rw [if_pos c2] at H
  have LMc2 := am c2
  clear c2
  obtain ⟨y568, hy568⟩ : ∃ y_ : List Int, y_ = (y565 ++ l0) := ⟨_, rfl⟩
  replace H : ((snap_Load.f k y568).bind fun bt571 => ((minstrelref19_Load.f k l0).bind fun bt590 => (if bt571.2.2.2.2.2.2.2.2.2.2.2 = bt590.2.2.2.2.2.2.2.2.2.2.2 then ((minstrelref19_Snaps.f k bt571.1 bt571.2.1 bt571.2.2.1 bt571.2.2.2.1 bt571.2.2.2.2.1 bt571.2.2.2.2.2.1 bt571.2.2.2.2.2.2.1 bt571.2.2.2.2.2.2.2.1 bt571.2.2.2.2.2.2.2.2.1 bt571.2.2.2.2.2.2.2.2.2.1 bt571.2.2.2.2.2.2.2.2.2.2.1 bt590.1 bt590.2.1 bt590.2.2.1 bt590.2.2.2.1 bt590.2.2.2.2.1 bt590.2.2.2.2.2.1 bt590.2.2.2.2.2.2.1 bt590.2.2.2.2.2.2.2.1 bt590.2.2.2.2.2.2.2.2.1 bt590.2.2.2.2.2.2.2.2.2.1 bt590.2.2.2.2.2.2.2.2.2.2.1).bind fun t609 => (if t609 = true then ((minstrellaw19_lives.f k).bind fun t610 => (some t610)) else (none))) else (none)))) = some r := by first | (rw [hy568]; with_reducible exact H) | (have H2_ := (Option.bind_some _ _).symm.trans H; rw [hy568]; with_reducible exact H2_) | (have H2_ := (Option.bind_some _ _).symm.trans H; with_reducible exact H2_) | with_reducible exact H | (rw [hy568]; exact H) | exact H
  have Ny568 := am hy568
  clear hy568
  replace H := Option.bind_eq_some_iff.mp H
  obtain ⟨⟨t571, t572, t573, t576, t577, t578, t579, t582, t583, t584, t585, t588⟩, A30, H⟩ := H
  try dsimp only at H
  have A3 := am A30
  clear A30
  replace H := Option.bind_eq_some_iff.mp H
  obtain ⟨⟨t590, t591, t592, t595, t596, t597, t598, t601, t602, t603, t604, t607⟩, A40, H⟩ := H
  try dsimp only at H
  have A4 := am A40
  clear A40
  by_cases c5 : t588 = t607
  ·rw [if_pos c5] at H
   have c5b0 : (t588 == t607) = true := beq_iff_eq.mpr c5
   have c5b1 : (t588 != t607) = false := bne_eq_false_iff_eq.mpr c5
   clear c5
   replace H := Option.bind_eq_some_iff.mp H
   obtain ⟨t609, A60, H⟩ := H
   try dsimp only at H
   have A6 := am A60
   clear A60
   by_cases c7 : t609 = true
   ·subst c7
    rw [if_pos rfl] at H
    replace H := Option.bind_eq_some_iff.mp H
    obtain ⟨t610, A80, H⟩ := H
    try dsimp only at H
    have A8 := am A80
    clear A80
    obtain rfl := Option.some.inj H
    go_enter Tryd.func4, Tryd.ntmps4
    go_wp2_with (first | ((with_reducible refine gate_dst (N := 8) rfl ?_); refine Kd.R_lit (Kd.int .u8) _ 5 ?hg (N := 8) ?hd (xs := ([] : List Int)) (inner := []) (ok := fun _ => True) (okp := fun _ => True) ?hr ?hp (fun _ hk => hk) trivial (Below.refl _ _) (Nat.le_refl _) (by simp) ?_; (case hd => rfl); (case hg => rfl); (case hr => first | (go_simp; done) | (go_simp; rfl)); (case hp => exact (Reps.none _ _)); intro v566 w9 ho10 hb hg_ hnew_; clear hg_ hnew_; (first | rw [← Ny565.out] at ho10 | (simp only [Int.reduceToNat] at ho10; rw [← Ny565.out] at ho10)); have HO567 := am (Kd.R_lower ho10 (below_size pB)); replace HB := am (below_step pB hb); clear hb ho10) | ((with_reducible refine gate_builtin (b := .append) (xs := #[.tmp 8, .tmp 9]) rfl ?_); at_builtin; refine Kd.R_append_rows (Kd.int .u8) (w0 := w) w.heap.size rfl (.tmp 8) (.tmp 9) 31 5 (.int .u8 0) 1 rfl Tryd.underlying31 info5 rfl (by decide) (by omega) v566 y565 l0 _ _ _ (fun _ => True) (fun _ => False) rfl rfl ?aO ?aR (fun _ _ h => h) (fun _ h => h.elim) ?aF ?aB ?aS ?aL ?_; (case aR => exact pC (Kd.C_below HR0.out HB.out)); (case aB => exact pB); (case aF => exact (fun _ _ => trivial)); (case aO => exact (pR HO567.out)); (case aS => exact (below_size pB)); (case aL => have := LMc2.out; omega); intro v569 w11 ho hb hg hat; rw [← Ny568.out] at ho; replace HB := am (hb); have HO570 := am (ho); clear HO567; clear ho hb hg hat; obtain ⟨Ao12, co12, eo12⟩ := Kd.R_slice HO570.out; subst eo12) | ((with_reducible refine gate_callee (f := 14) rfl ?_); refine goesL_ (some 11) rfl rfl Tryd.func14 (by kernel_rfl) rfl #[.slice Ao12 y568.length co12] rfl pM ?_; (with_reducible refine (snap_Load.calls k _ _ y568 t571 t572 t573 t576 t577 t578 t579 t582 t583 t584 t585 t588 _ ?side1 ?side2 ?side3 A3.out).mono ?_); (case side1 => repeat (first | exact (Kd.R_reads' HO570.out).2.2 | (with_reducible refine Kd.C_alloc ?_ _) | (with_reducible refine Kd.C_drewN ?_ _) | (with_reducible refine Kd.C_drew ?_))); (case side2 => exact (Kd.R_reads' HO570.out).2.1); (case side3 => exact pG); rintro e w13 ⟨v574, v580, v586, rfl, ho0, ho1, ho2, hb⟩; refine ⟨_, rfl, ?_⟩; have HO575 := am (Kd.R_lower (Kd.R_mono (ok' := fun k_ => True) ho0 (fun _ hk_ => trivial)) (below_size pB)); have HO581 := am (Kd.V_lower (Kd.V_mono (ok' := fun k_ => some k_ ≠ (v574 : Value).ownBlock ∧ some k_ ≠ (.slice Ao12 y568.length co12 : Value).ownBlock) ho1 (fun k_ hk_ => ⟨hk_.2, (Kd.fresh' (Kd.R_lt (pR HO570.out)) k_ hk_.1)⟩)) (below_size pB)); have HO587 := am (Kd.V_lower (Kd.V_mono (ok' := fun k_ => some k_ ≠ (v574 : Value).ownBlock ∧ some k_ ≠ (.slice Ao12 y568.length co12 : Value).ownBlock) ho2 (fun k_ hk_ => ⟨hk_.2, (Kd.fresh' (Kd.R_lt (pR HO570.out)) k_ hk_.1)⟩)) (below_size pB)); replace HO570 := am (Kd.R_below (pR HO570.out) hb); replace HB := am (below_step pB hb); (try clear hb); (try clear hb2); (try clear hk); (try clear hi); (try clear ho0); (try clear ho1); (try clear ho2)) | ((with_reducible refine gate_dst (N := 3) rfl ?_); refine box_event ?hg (N := 3) ?hd (cs := zS_) (t := 28) ?hr ?_; (case hd => rfl); (case hg => rfl); (case hr => first | (go_simp; done) | (go_simp; rfl)); intro gb589 hg w14 hbox hb; replace HO570 := am (Kd.R_below (pR HO570.out) hb); replace HO575 := am (Kd.R_below (pR HO575.out) hb); replace HO581 := am (Kd.V_below (Kd.V_elderB (pV HO581.out) gb589 (Nat.le_of_eq hg.symm)) hb); replace HO587 := am (Kd.V_below (Kd.V_elderB (pV HO587.out) gb589 (Nat.le_of_eq hg.symm)) hb); have BK589 := am (hbox); have GW589 := am ((by rw [hg]; exact (below_size pB) : w.heap.size ≤ gb589)); have GE589 := am ((by rw [hg]; exact (below_size pB) : w.heap.size ≤ gb589)); replace HB := am (below_step pB hb); clear hb hbox hg; have q15 := cf11 BK589.out; obtain ⟨Ao16, co16, eo16⟩ := Kd.R_slice HO575.out; subst eo16; obtain ⟨Ao17, co17, eo17⟩ := Kd.V_slice HO581.out; subst eo17; obtain ⟨Ao18, co18, eo18⟩ := Kd.V_slice HO587.out; subst eo18) | ((with_reducible refine gate_callee (f := 16) rfl ?_); refine goesL_ (some 16) rfl rfl Tryd.func16 (by kernel_rfl) rfl #[.slice A0 l0.length c0] rfl pM ?_; (with_reducible refine (minstrelref19_Load.calls k _ _ l0 t590 t591 t592 t595 t596 t597 t598 t601 t602 t603 t604 t607 _ ?side1 ?side2 A4.out).mono ?_); (case side1 => exact Kd.C_below HR0.out pB); (case side2 => exact HC0.out); rintro e w19 ⟨v593, v599, v605, rfl, ho0, ho1, ho2, hb⟩; refine ⟨_, rfl, ?_⟩; replace HO581 := am (Kd.V_elder' (by (with_reducible repeat (first | apply Kd.V_alloc | apply Kd.V_drewN | apply Kd.V_drew)); exact (Kd.V_mono (Kd.V_far (p := ⟨gb589, 10, none⟩) (Kd.V_far (p := ⟨gb589, 9, none⟩) (Kd.V_far (p := ⟨gb589, 8, none⟩) (Kd.V_far (p := ⟨gb589, 7, none⟩) (Kd.V_far (p := ⟨gb589, 6, none⟩) (Kd.V_far (p := ⟨gb589, 5, none⟩) (Kd.V_far (p := ⟨gb589, 4, none⟩) (Kd.V_far (p := ⟨gb589, 3, none⟩) (Kd.V_far (p := ⟨gb589, 2, none⟩) (Kd.V_far (p := ⟨gb589, 1, none⟩) (Kd.V_far (p := ⟨gb589, 0, none⟩) (Kd.V_mono HO581.out (fun k_ hk => (⟨hk, hk.2⟩ : _ ∧ k_ ≠ gb589))) (fun _ hk => hk.2) (.int .u64 t571)) (fun _ hk => hk.2) (.int .u64 t572)) (fun _ hk => hk.2) (.slice Ao16 t573.length co16)) (fun _ hk => hk.2) (.int .i64 t576)) (fun _ hk => hk.2) (.int .u64 t577)) (fun _ hk => hk.2) (.string t578)) (fun _ hk => hk.2) (.slice Ao17 t579.length co17)) (fun _ hk => hk.2) (.int .i64 t582)) (fun _ hk => hk.2) (.int .u64 t583)) (fun _ hk => hk.2) (.string t584)) (fun _ hk => hk.2) (.slice Ao18 t585.length co18)) (fun _ h_ => h_.1))) (Kd.R_base ho0) hb); replace HO587 := am (Kd.V_elder' (by (with_reducible repeat (first | apply Kd.V_alloc | apply Kd.V_drewN | apply Kd.V_drew)); exact (Kd.V_mono (Kd.V_far (p := ⟨gb589, 10, none⟩) (Kd.V_far (p := ⟨gb589, 9, none⟩) (Kd.V_far (p := ⟨gb589, 8, none⟩) (Kd.V_far (p := ⟨gb589, 7, none⟩) (Kd.V_far (p := ⟨gb589, 6, none⟩) (Kd.V_far (p := ⟨gb589, 5, none⟩) (Kd.V_far (p := ⟨gb589, 4, none⟩) (Kd.V_far (p := ⟨gb589, 3, none⟩) (Kd.V_far (p := ⟨gb589, 2, none⟩) (Kd.V_far (p := ⟨gb589, 1, none⟩) (Kd.V_far (p := ⟨gb589, 0, none⟩) (Kd.V_mono HO587.out (fun k_ hk => (⟨hk, hk.2⟩ : _ ∧ k_ ≠ gb589))) (fun _ hk => hk.2) (.int .u64 t571)) (fun _ hk => hk.2) (.int .u64 t572)) (fun _ hk => hk.2) (.slice Ao16 t573.length co16)) (fun _ hk => hk.2) (.int .i64 t576)) (fun _ hk => hk.2) (.int .u64 t577)) (fun _ hk => hk.2) (.string t578)) (fun _ hk => hk.2) (.slice Ao17 t579.length co17)) (fun _ hk => hk.2) (.int .i64 t582)) (fun _ hk => hk.2) (.int .u64 t583)) (fun _ hk => hk.2) (.string t584)) (fun _ hk => hk.2) (.slice Ao18 t585.length co18)) (fun _ h_ => h_.1))) (Kd.R_base ho0) hb); have HO594 := am (Kd.R_lower (Kd.R_new' (Kd.R_mono (ok' := fun k_ => True) ho0 (fun _ hk_ => trivial)) (Kd.R_lt (by (with_reducible repeat (first | apply Kd.R_alloc | apply Kd.R_drewN | apply Kd.R_drew)); exact (Kd.R_mono (Kd.R_far (p := ⟨gb589, 10, none⟩) (Kd.R_far (p := ⟨gb589, 9, none⟩) (Kd.R_far (p := ⟨gb589, 8, none⟩) (Kd.R_far (p := ⟨gb589, 7, none⟩) (Kd.R_far (p := ⟨gb589, 6, none⟩) (Kd.R_far (p := ⟨gb589, 5, none⟩) (Kd.R_far (p := ⟨gb589, 4, none⟩) (Kd.R_far (p := ⟨gb589, 3, none⟩) (Kd.R_far (p := ⟨gb589, 2, none⟩) (Kd.R_far (p := ⟨gb589, 1, none⟩) (Kd.R_far (p := ⟨gb589, 0, none⟩) (Kd.R_types HO575.out BK589.out (by decide)) (fun _ hk => hk.2) (.int .u64 t571)) (fun _ hk => hk.2) (.int .u64 t572)) (fun _ hk => hk.2) (.slice Ao16 t573.length co16)) (fun _ hk => hk.2) (.int .i64 t576)) (fun _ hk => hk.2) (.int .u64 t577)) (fun _ hk => hk.2) (.string t578)) (fun _ hk => hk.2) (.slice Ao17 t579.length co17)) (fun _ hk => hk.2) (.int .i64 t582)) (fun _ hk => hk.2) (.int .u64 t583)) (fun _ hk => hk.2) (.string t584)) (fun _ hk => hk.2) (.slice Ao18 t585.length co18)) (fun _ h_ => h_.1))))) (below_size pB)); have HO600 := am (Kd.V_lower (Kd.V_mono (ok' := fun k_ => some k_ ≠ (v593 : Value).ownBlock ∧ some k_ ≠ (.slice Ao12 y568.length co12 : Value).ownBlock ∧ some k_ ≠ (.slice Ao16 t573.length co16 : Value).ownBlock ∧ k_ ≠ gb589) ho1 (fun k_ hk_ => ⟨hk_.2, (Kd.fresh' (Kd.R_lt (by (with_reducible repeat (first | apply Kd.R_alloc | apply Kd.R_drewN | apply Kd.R_drew)); exact (Kd.R_mono (Kd.R_far (p := ⟨gb589, 10, none⟩) (Kd.R_far (p := ⟨gb589, 9, none⟩) (Kd.R_far (p := ⟨gb589, 8, none⟩) (Kd.R_far (p := ⟨gb589, 7, none⟩) (Kd.R_far (p := ⟨gb589, 6, none⟩) (Kd.R_far (p := ⟨gb589, 5, none⟩) (Kd.R_far (p := ⟨gb589, 4, none⟩) (Kd.R_far (p := ⟨gb589, 3, none⟩) (Kd.R_far (p := ⟨gb589, 2, none⟩) (Kd.R_far (p := ⟨gb589, 1, none⟩) (Kd.R_far (p := ⟨gb589, 0, none⟩) (Kd.R_types HO570.out BK589.out (by decide)) (fun _ hk => hk.2) (.int .u64 t571)) (fun _ hk => hk.2) (.int .u64 t572)) (fun _ hk => hk.2) (.slice Ao16 t573.length co16)) (fun _ hk => hk.2) (.int .i64 t576)) (fun _ hk => hk.2) (.int .u64 t577)) (fun _ hk => hk.2) (.string t578)) (fun _ hk => hk.2) (.slice Ao17 t579.length co17)) (fun _ hk => hk.2) (.int .i64 t582)) (fun _ hk => hk.2) (.int .u64 t583)) (fun _ hk => hk.2) (.string t584)) (fun _ hk => hk.2) (.slice Ao18 t585.length co18)) (fun _ h_ => h_.1)))) k_ hk_.1), (Kd.fresh' (Kd.R_lt (by (with_reducible repeat (first | apply Kd.R_alloc | apply Kd.R_drewN | apply Kd.R_drew)); exact (Kd.R_mono (Kd.R_far (p := ⟨gb589, 10, none⟩) (Kd.R_far (p := ⟨gb589, 9, none⟩) (Kd.R_far (p := ⟨gb589, 8, none⟩) (Kd.R_far (p := ⟨gb589, 7, none⟩) (Kd.R_far (p := ⟨gb589, 6, none⟩) (Kd.R_far (p := ⟨gb589, 5, none⟩) (Kd.R_far (p := ⟨gb589, 4, none⟩) (Kd.R_far (p := ⟨gb589, 3, none⟩) (Kd.R_far (p := ⟨gb589, 2, none⟩) (Kd.R_far (p := ⟨gb589, 1, none⟩) (Kd.R_far (p := ⟨gb589, 0, none⟩) (Kd.R_types HO575.out BK589.out (by decide)) (fun _ hk => hk.2) (.int .u64 t571)) (fun _ hk => hk.2) (.int .u64 t572)) (fun _ hk => hk.2) (.slice Ao16 t573.length co16)) (fun _ hk => hk.2) (.int .i64 t576)) (fun _ hk => hk.2) (.int .u64 t577)) (fun _ hk => hk.2) (.string t578)) (fun _ hk => hk.2) (.slice Ao17 t579.length co17)) (fun _ hk => hk.2) (.int .i64 t582)) (fun _ hk => hk.2) (.int .u64 t583)) (fun _ hk => hk.2) (.string t584)) (fun _ hk => hk.2) (.slice Ao18 t585.length co18)) (fun _ h_ => h_.1)))) k_ hk_.1), (Kd.freshB (g := gb589) (o := .cells #[.int .u64 t571, .int .u64 t572, .slice Ao16 t573.length co16, .int .i64 t576, .int .u64 t577, .string t578, .slice Ao17 t579.length co17, .int .i64 t582, .int .u64 t583, .string t584, .slice Ao18 t585.length co18] 28 (0, 0)) (by (with_reducible repeat (first | refine blk_drewN ?_ _ | refine blk_drew ?_ | refine blk_alloc ?_ _)); refine blk_put (cs := #[.int .u64 t571, .int .u64 t572, .slice Ao16 t573.length co16, .int .i64 t576, .int .u64 t577, .string t578, .slice Ao17 t579.length co17, .int .i64 t582, .int .u64 t583, .string t584, .slice none 0 0]) ?_ 10 _ rfl; (with_reducible repeat (first | refine blk_drewN ?_ _ | refine blk_drew ?_ | refine blk_alloc ?_ _)); refine blk_put (cs := #[.int .u64 t571, .int .u64 t572, .slice Ao16 t573.length co16, .int .i64 t576, .int .u64 t577, .string t578, .slice Ao17 t579.length co17, .int .i64 t582, .int .u64 t583, .string (⟨#[]⟩ : ByteArray), .slice none 0 0]) ?_ 9 _ rfl; (with_reducible repeat (first | refine blk_drewN ?_ _ | refine blk_drew ?_ | refine blk_alloc ?_ _)); refine blk_put (cs := #[.int .u64 t571, .int .u64 t572, .slice Ao16 t573.length co16, .int .i64 t576, .int .u64 t577, .string t578, .slice Ao17 t579.length co17, .int .i64 t582, .int .u64 0, .string (⟨#[]⟩ : ByteArray), .slice none 0 0]) ?_ 8 _ rfl; (with_reducible repeat (first | refine blk_drewN ?_ _ | refine blk_drew ?_ | refine blk_alloc ?_ _)); refine blk_put (cs := #[.int .u64 t571, .int .u64 t572, .slice Ao16 t573.length co16, .int .i64 t576, .int .u64 t577, .string t578, .slice Ao17 t579.length co17, .int .i64 0, .int .u64 0, .string (⟨#[]⟩ : ByteArray), .slice none 0 0]) ?_ 7 _ rfl; (with_reducible repeat (first | refine blk_drewN ?_ _ | refine blk_drew ?_ | refine blk_alloc ?_ _)); refine blk_put (cs := #[.int .u64 t571, .int .u64 t572, .slice Ao16 t573.length co16, .int .i64 t576, .int .u64 t577, .string t578, .slice none 0 0, .int .i64 0, .int .u64 0, .string (⟨#[]⟩ : ByteArray), .slice none 0 0]) ?_ 6 _ rfl; (with_reducible repeat (first | refine blk_drewN ?_ _ | refine blk_drew ?_ | refine blk_alloc ?_ _)); refine blk_put (cs := #[.int .u64 t571, .int .u64 t572, .slice Ao16 t573.length co16, .int .i64 t576, .int .u64 t577, .string (⟨#[]⟩ : ByteArray), .slice none 0 0, .int .i64 0, .int .u64 0, .string (⟨#[]⟩ : ByteArray), .slice none 0 0]) ?_ 5 _ rfl; (with_reducible repeat (first | refine blk_drewN ?_ _ | refine blk_drew ?_ | refine blk_alloc ?_ _)); refine blk_put (cs := #[.int .u64 t571, .int .u64 t572, .slice Ao16 t573.length co16, .int .i64 t576, .int .u64 0, .string (⟨#[]⟩ : ByteArray), .slice none 0 0, .int .i64 0, .int .u64 0, .string (⟨#[]⟩ : ByteArray), .slice none 0 0]) ?_ 4 _ rfl; (with_reducible repeat (first | refine blk_drewN ?_ _ | refine blk_drew ?_ | refine blk_alloc ?_ _)); refine blk_put (cs := #[.int .u64 t571, .int .u64 t572, .slice Ao16 t573.length co16, .int .i64 0, .int .u64 0, .string (⟨#[]⟩ : ByteArray), .slice none 0 0, .int .i64 0, .int .u64 0, .string (⟨#[]⟩ : ByteArray), .slice none 0 0]) ?_ 3 _ rfl; (with_reducible repeat (first | refine blk_drewN ?_ _ | refine blk_drew ?_ | refine blk_alloc ?_ _)); refine blk_put (cs := #[.int .u64 t571, .int .u64 t572, .slice none 0 0, .int .i64 0, .int .u64 0, .string (⟨#[]⟩ : ByteArray), .slice none 0 0, .int .i64 0, .int .u64 0, .string (⟨#[]⟩ : ByteArray), .slice none 0 0]) ?_ 2 _ rfl; (with_reducible repeat (first | refine blk_drewN ?_ _ | refine blk_drew ?_ | refine blk_alloc ?_ _)); refine blk_put (cs := #[.int .u64 t571, .int .u64 0, .slice none 0 0, .int .i64 0, .int .u64 0, .string (⟨#[]⟩ : ByteArray), .slice none 0 0, .int .i64 0, .int .u64 0, .string (⟨#[]⟩ : ByteArray), .slice none 0 0]) ?_ 1 _ rfl; (with_reducible repeat (first | refine blk_drewN ?_ _ | refine blk_drew ?_ | refine blk_alloc ?_ _)); refine blk_put (cs := zS_) ?_ 0 _ rfl; (with_reducible repeat (first | refine blk_drewN ?_ _ | refine blk_drew ?_ | refine blk_alloc ?_ _)); exact BK589.out) k_ hk_.1)⟩)) (below_size pB)); have HO606 := am (Kd.V_lower (Kd.V_mono (ok' := fun k_ => some k_ ≠ (v593 : Value).ownBlock ∧ some k_ ≠ (.slice Ao12 y568.length co12 : Value).ownBlock ∧ some k_ ≠ (.slice Ao16 t573.length co16 : Value).ownBlock ∧ k_ ≠ gb589) ho2 (fun k_ hk_ => ⟨hk_.2, (Kd.fresh' (Kd.R_lt (by (with_reducible repeat (first | apply Kd.R_alloc | apply Kd.R_drewN | apply Kd.R_drew)); exact (Kd.R_mono (Kd.R_far (p := ⟨gb589, 10, none⟩) (Kd.R_far (p := ⟨gb589, 9, none⟩) (Kd.R_far (p := ⟨gb589, 8, none⟩) (Kd.R_far (p := ⟨gb589, 7, none⟩) (Kd.R_far (p := ⟨gb589, 6, none⟩) (Kd.R_far (p := ⟨gb589, 5, none⟩) (Kd.R_far (p := ⟨gb589, 4, none⟩) (Kd.R_far (p := ⟨gb589, 3, none⟩) (Kd.R_far (p := ⟨gb589, 2, none⟩) (Kd.R_far (p := ⟨gb589, 1, none⟩) (Kd.R_far (p := ⟨gb589, 0, none⟩) (Kd.R_types HO570.out BK589.out (by decide)) (fun _ hk => hk.2) (.int .u64 t571)) (fun _ hk => hk.2) (.int .u64 t572)) (fun _ hk => hk.2) (.slice Ao16 t573.length co16)) (fun _ hk => hk.2) (.int .i64 t576)) (fun _ hk => hk.2) (.int .u64 t577)) (fun _ hk => hk.2) (.string t578)) (fun _ hk => hk.2) (.slice Ao17 t579.length co17)) (fun _ hk => hk.2) (.int .i64 t582)) (fun _ hk => hk.2) (.int .u64 t583)) (fun _ hk => hk.2) (.string t584)) (fun _ hk => hk.2) (.slice Ao18 t585.length co18)) (fun _ h_ => h_.1)))) k_ hk_.1), (Kd.fresh' (Kd.R_lt (by (with_reducible repeat (first | apply Kd.R_alloc | apply Kd.R_drewN | apply Kd.R_drew)); exact (Kd.R_mono (Kd.R_far (p := ⟨gb589, 10, none⟩) (Kd.R_far (p := ⟨gb589, 9, none⟩) (Kd.R_far (p := ⟨gb589, 8, none⟩) (Kd.R_far (p := ⟨gb589, 7, none⟩) (Kd.R_far (p := ⟨gb589, 6, none⟩) (Kd.R_far (p := ⟨gb589, 5, none⟩) (Kd.R_far (p := ⟨gb589, 4, none⟩) (Kd.R_far (p := ⟨gb589, 3, none⟩) (Kd.R_far (p := ⟨gb589, 2, none⟩) (Kd.R_far (p := ⟨gb589, 1, none⟩) (Kd.R_far (p := ⟨gb589, 0, none⟩) (Kd.R_types HO575.out BK589.out (by decide)) (fun _ hk => hk.2) (.int .u64 t571)) (fun _ hk => hk.2) (.int .u64 t572)) (fun _ hk => hk.2) (.slice Ao16 t573.length co16)) (fun _ hk => hk.2) (.int .i64 t576)) (fun _ hk => hk.2) (.int .u64 t577)) (fun _ hk => hk.2) (.string t578)) (fun _ hk => hk.2) (.slice Ao17 t579.length co17)) (fun _ hk => hk.2) (.int .i64 t582)) (fun _ hk => hk.2) (.int .u64 t583)) (fun _ hk => hk.2) (.string t584)) (fun _ hk => hk.2) (.slice Ao18 t585.length co18)) (fun _ h_ => h_.1)))) k_ hk_.1), (Kd.freshB (g := gb589) (o := .cells #[.int .u64 t571, .int .u64 t572, .slice Ao16 t573.length co16, .int .i64 t576, .int .u64 t577, .string t578, .slice Ao17 t579.length co17, .int .i64 t582, .int .u64 t583, .string t584, .slice Ao18 t585.length co18] 28 (0, 0)) (by (with_reducible repeat (first | refine blk_drewN ?_ _ | refine blk_drew ?_ | refine blk_alloc ?_ _)); refine blk_put (cs := #[.int .u64 t571, .int .u64 t572, .slice Ao16 t573.length co16, .int .i64 t576, .int .u64 t577, .string t578, .slice Ao17 t579.length co17, .int .i64 t582, .int .u64 t583, .string t584, .slice none 0 0]) ?_ 10 _ rfl; (with_reducible repeat (first | refine blk_drewN ?_ _ | refine blk_drew ?_ | refine blk_alloc ?_ _)); refine blk_put (cs := #[.int .u64 t571, .int .u64 t572, .slice Ao16 t573.length co16, .int .i64 t576, .int .u64 t577, .string t578, .slice Ao17 t579.length co17, .int .i64 t582, .int .u64 t583, .string (⟨#[]⟩ : ByteArray), .slice none 0 0]) ?_ 9 _ rfl; (with_reducible repeat (first | refine blk_drewN ?_ _ | refine blk_drew ?_ | refine blk_alloc ?_ _)); refine blk_put (cs := #[.int .u64 t571, .int .u64 t572, .slice Ao16 t573.length co16, .int .i64 t576, .int .u64 t577, .string t578, .slice Ao17 t579.length co17, .int .i64 t582, .int .u64 0, .string (⟨#[]⟩ : ByteArray), .slice none 0 0]) ?_ 8 _ rfl; (with_reducible repeat (first | refine blk_drewN ?_ _ | refine blk_drew ?_ | refine blk_alloc ?_ _)); refine blk_put (cs := #[.int .u64 t571, .int .u64 t572, .slice Ao16 t573.length co16, .int .i64 t576, .int .u64 t577, .string t578, .slice Ao17 t579.length co17, .int .i64 0, .int .u64 0, .string (⟨#[]⟩ : ByteArray), .slice none 0 0]) ?_ 7 _ rfl; (with_reducible repeat (first | refine blk_drewN ?_ _ | refine blk_drew ?_ | refine blk_alloc ?_ _)); refine blk_put (cs := #[.int .u64 t571, .int .u64 t572, .slice Ao16 t573.length co16, .int .i64 t576, .int .u64 t577, .string t578, .slice none 0 0, .int .i64 0, .int .u64 0, .string (⟨#[]⟩ : ByteArray), .slice none 0 0]) ?_ 6 _ rfl; (with_reducible repeat (first | refine blk_drewN ?_ _ | refine blk_drew ?_ | refine blk_alloc ?_ _)); refine blk_put (cs := #[.int .u64 t571, .int .u64 t572, .slice Ao16 t573.length co16, .int .i64 t576, .int .u64 t577, .string (⟨#[]⟩ : ByteArray), .slice none 0 0, .int .i64 0, .int .u64 0, .string (⟨#[]⟩ : ByteArray), .slice none 0 0]) ?_ 5 _ rfl; (with_reducible repeat (first | refine blk_drewN ?_ _ | refine blk_drew ?_ | refine blk_alloc ?_ _)); refine blk_put (cs := #[.int .u64 t571, .int .u64 t572, .slice Ao16 t573.length co16, .int .i64 t576, .int .u64 0, .string (⟨#[]⟩ : ByteArray), .slice none 0 0, .int .i64 0, .int .u64 0, .string (⟨#[]⟩ : ByteArray), .slice none 0 0]) ?_ 4 _ rfl; (with_reducible repeat (first | refine blk_drewN ?_ _ | refine blk_drew ?_ | refine blk_alloc ?_ _)); refine blk_put (cs := #[.int .u64 t571, .int .u64 t572, .slice Ao16 t573.length co16, .int .i64 0, .int .u64 0, .string (⟨#[]⟩ : ByteArray), .slice none 0 0, .int .i64 0, .int .u64 0, .string (⟨#[]⟩ : ByteArray), .slice none 0 0]) ?_ 3 _ rfl; (with_reducible repeat (first | refine blk_drewN ?_ _ | refine blk_drew ?_ | refine blk_alloc ?_ _)); refine blk_put (cs := #[.int .u64 t571, .int .u64 t572, .slice none 0 0, .int .i64 0, .int .u64 0, .string (⟨#[]⟩ : ByteArray), .slice none 0 0, .int .i64 0, .int .u64 0, .string (⟨#[]⟩ : ByteArray), .slice none 0 0]) ?_ 2 _ rfl; (with_reducible repeat (first | refine blk_drewN ?_ _ | refine blk_drew ?_ | refine blk_alloc ?_ _)); refine blk_put (cs := #[.int .u64 t571, .int .u64 0, .slice none 0 0, .int .i64 0, .int .u64 0, .string (⟨#[]⟩ : ByteArray), .slice none 0 0, .int .i64 0, .int .u64 0, .string (⟨#[]⟩ : ByteArray), .slice none 0 0]) ?_ 1 _ rfl; (with_reducible repeat (first | refine blk_drewN ?_ _ | refine blk_drew ?_ | refine blk_alloc ?_ _)); refine blk_put (cs := zS_) ?_ 0 _ rfl; (with_reducible repeat (first | refine blk_drewN ?_ _ | refine blk_drew ?_ | refine blk_alloc ?_ _)); exact BK589.out) k_ hk_.1)⟩)) (below_size pB)); replace HO570 := am (Kd.R_below (by (with_reducible repeat (first | apply Kd.R_alloc | apply Kd.R_drewN | apply Kd.R_drew)); exact (Kd.R_mono (Kd.R_far (p := ⟨gb589, 10, none⟩) (Kd.R_far (p := ⟨gb589, 9, none⟩) (Kd.R_far (p := ⟨gb589, 8, none⟩) (Kd.R_far (p := ⟨gb589, 7, none⟩) (Kd.R_far (p := ⟨gb589, 6, none⟩) (Kd.R_far (p := ⟨gb589, 5, none⟩) (Kd.R_far (p := ⟨gb589, 4, none⟩) (Kd.R_far (p := ⟨gb589, 3, none⟩) (Kd.R_far (p := ⟨gb589, 2, none⟩) (Kd.R_far (p := ⟨gb589, 1, none⟩) (Kd.R_far (p := ⟨gb589, 0, none⟩) (Kd.R_types HO570.out BK589.out (by decide)) (fun _ hk => hk.2) (.int .u64 t571)) (fun _ hk => hk.2) (.int .u64 t572)) (fun _ hk => hk.2) (.slice Ao16 t573.length co16)) (fun _ hk => hk.2) (.int .i64 t576)) (fun _ hk => hk.2) (.int .u64 t577)) (fun _ hk => hk.2) (.string t578)) (fun _ hk => hk.2) (.slice Ao17 t579.length co17)) (fun _ hk => hk.2) (.int .i64 t582)) (fun _ hk => hk.2) (.int .u64 t583)) (fun _ hk => hk.2) (.string t584)) (fun _ hk => hk.2) (.slice Ao18 t585.length co18)) (fun _ h_ => h_.1))) hb); replace HO575 := am (Kd.R_elder' (by (with_reducible repeat (first | apply Kd.R_alloc | apply Kd.R_drewN | apply Kd.R_drew)); exact (Kd.R_mono (Kd.R_far (p := ⟨gb589, 10, none⟩) (Kd.R_far (p := ⟨gb589, 9, none⟩) (Kd.R_far (p := ⟨gb589, 8, none⟩) (Kd.R_far (p := ⟨gb589, 7, none⟩) (Kd.R_far (p := ⟨gb589, 6, none⟩) (Kd.R_far (p := ⟨gb589, 5, none⟩) (Kd.R_far (p := ⟨gb589, 4, none⟩) (Kd.R_far (p := ⟨gb589, 3, none⟩) (Kd.R_far (p := ⟨gb589, 2, none⟩) (Kd.R_far (p := ⟨gb589, 1, none⟩) (Kd.R_far (p := ⟨gb589, 0, none⟩) (Kd.R_types HO575.out BK589.out (by decide)) (fun _ hk => hk.2) (.int .u64 t571)) (fun _ hk => hk.2) (.int .u64 t572)) (fun _ hk => hk.2) (.slice Ao16 t573.length co16)) (fun _ hk => hk.2) (.int .i64 t576)) (fun _ hk => hk.2) (.int .u64 t577)) (fun _ hk => hk.2) (.string t578)) (fun _ hk => hk.2) (.slice Ao17 t579.length co17)) (fun _ hk => hk.2) (.int .i64 t582)) (fun _ hk => hk.2) (.int .u64 t583)) (fun _ hk => hk.2) (.string t584)) (fun _ hk => hk.2) (.slice Ao18 t585.length co18)) (fun _ h_ => h_.1))) (Kd.R_base ho0) hb); replace BK589 := am (blk_below (g := gb589) (o := .cells #[.int .u64 t571, .int .u64 t572, .slice Ao16 t573.length co16, .int .i64 t576, .int .u64 t577, .string t578, .slice Ao17 t579.length co17, .int .i64 t582, .int .u64 t583, .string t584, .slice Ao18 t585.length co18] 28 (0, 0)) (by (with_reducible repeat (first | refine blk_drewN ?_ _ | refine blk_drew ?_ | refine blk_alloc ?_ _)); refine blk_put (cs := #[.int .u64 t571, .int .u64 t572, .slice Ao16 t573.length co16, .int .i64 t576, .int .u64 t577, .string t578, .slice Ao17 t579.length co17, .int .i64 t582, .int .u64 t583, .string t584, .slice none 0 0]) ?_ 10 _ rfl; (with_reducible repeat (first | refine blk_drewN ?_ _ | refine blk_drew ?_ | refine blk_alloc ?_ _)); refine blk_put (cs := #[.int .u64 t571, .int .u64 t572, .slice Ao16 t573.length co16, .int .i64 t576, .int .u64 t577, .string t578, .slice Ao17 t579.length co17, .int .i64 t582, .int .u64 t583, .string (⟨#[]⟩ : ByteArray), .slice none 0 0]) ?_ 9 _ rfl; (with_reducible repeat (first | refine blk_drewN ?_ _ | refine blk_drew ?_ | refine blk_alloc ?_ _)); refine blk_put (cs := #[.int .u64 t571, .int .u64 t572, .slice Ao16 t573.length co16, .int .i64 t576, .int .u64 t577, .string t578, .slice Ao17 t579.length co17, .int .i64 t582, .int .u64 0, .string (⟨#[]⟩ : ByteArray), .slice none 0 0]) ?_ 8 _ rfl; (with_reducible repeat (first | refine blk_drewN ?_ _ | refine blk_drew ?_ | refine blk_alloc ?_ _)); refine blk_put (cs := #[.int .u64 t571, .int .u64 t572, .slice Ao16 t573.length co16, .int .i64 t576, .int .u64 t577, .string t578, .slice Ao17 t579.length co17, .int .i64 0, .int .u64 0, .string (⟨#[]⟩ : ByteArray), .slice none 0 0]) ?_ 7 _ rfl; (with_reducible repeat (first | refine blk_drewN ?_ _ | refine blk_drew ?_ | refine blk_alloc ?_ _)); refine blk_put (cs := #[.int .u64 t571, .int .u64 t572, .slice Ao16 t573.length co16, .int .i64 t576, .int .u64 t577, .string t578, .slice none 0 0, .int .i64 0, .int .u64 0, .string (⟨#[]⟩ : ByteArray), .slice none 0 0]) ?_ 6 _ rfl; (with_reducible repeat (first | refine blk_drewN ?_ _ | refine blk_drew ?_ | refine blk_alloc ?_ _)); refine blk_put (cs := #[.int .u64 t571, .int .u64 t572, .slice Ao16 t573.length co16, .int .i64 t576, .int .u64 t577, .string (⟨#[]⟩ : ByteArray), .slice none 0 0, .int .i64 0, .int .u64 0, .string (⟨#[]⟩ : ByteArray), .slice none 0 0]) ?_ 5 _ rfl; (with_reducible repeat (first | refine blk_drewN ?_ _ | refine blk_drew ?_ | refine blk_alloc ?_ _)); refine blk_put (cs := #[.int .u64 t571, .int .u64 t572, .slice Ao16 t573.length co16, .int .i64 t576, .int .u64 0, .string (⟨#[]⟩ : ByteArray), .slice none 0 0, .int .i64 0, .int .u64 0, .string (⟨#[]⟩ : ByteArray), .slice none 0 0]) ?_ 4 _ rfl; (with_reducible repeat (first | refine blk_drewN ?_ _ | refine blk_drew ?_ | refine blk_alloc ?_ _)); refine blk_put (cs := #[.int .u64 t571, .int .u64 t572, .slice Ao16 t573.length co16, .int .i64 0, .int .u64 0, .string (⟨#[]⟩ : ByteArray), .slice none 0 0, .int .i64 0, .int .u64 0, .string (⟨#[]⟩ : ByteArray), .slice none 0 0]) ?_ 3 _ rfl; (with_reducible repeat (first | refine blk_drewN ?_ _ | refine blk_drew ?_ | refine blk_alloc ?_ _)); refine blk_put (cs := #[.int .u64 t571, .int .u64 t572, .slice none 0 0, .int .i64 0, .int .u64 0, .string (⟨#[]⟩ : ByteArray), .slice none 0 0, .int .i64 0, .int .u64 0, .string (⟨#[]⟩ : ByteArray), .slice none 0 0]) ?_ 2 _ rfl; (with_reducible repeat (first | refine blk_drewN ?_ _ | refine blk_drew ?_ | refine blk_alloc ?_ _)); refine blk_put (cs := #[.int .u64 t571, .int .u64 0, .slice none 0 0, .int .i64 0, .int .u64 0, .string (⟨#[]⟩ : ByteArray), .slice none 0 0, .int .i64 0, .int .u64 0, .string (⟨#[]⟩ : ByteArray), .slice none 0 0]) ?_ 1 _ rfl; (with_reducible repeat (first | refine blk_drewN ?_ _ | refine blk_drew ?_ | refine blk_alloc ?_ _)); refine blk_put (cs := zS_) ?_ 0 _ rfl; (with_reducible repeat (first | refine blk_drewN ?_ _ | refine blk_drew ?_ | refine blk_alloc ?_ _)); exact BK589.out) hb); replace HB := am (below_step pB hb); (try clear hb); (try clear hb2); (try clear hk); (try clear hi); (try clear ho0); (try clear ho1); (try clear ho2)) | ((with_reducible refine gate_dst (N := 5) rfl ?_); refine box_event ?hg (N := 5) ?hd (cs := zS_) (t := 28) ?hr ?_; (case hd => rfl); (case hg => rfl); (case hr => first | (go_simp; done) | (go_simp; rfl)); intro gb608 hg w20 hbox hb; replace HO570 := am (Kd.R_below (pR HO570.out) hb); replace HO575 := am (Kd.R_below (pR HO575.out) hb); replace HO581 := am (Kd.V_below (Kd.V_elderB (pV HO581.out) gb608 (Nat.le_of_eq hg.symm)) hb); replace HO587 := am (Kd.V_below (Kd.V_elderB (pV HO587.out) gb608 (Nat.le_of_eq hg.symm)) hb); replace HO594 := am (Kd.R_below (pR HO594.out) hb); replace HO600 := am (Kd.V_below (Kd.V_elderB (pV HO600.out) gb608 (Nat.le_of_eq hg.symm)) hb); replace HO606 := am (Kd.V_below (Kd.V_elderB (pV HO606.out) gb608 (Nat.le_of_eq hg.symm)) hb); have BK608 := am (hbox); have GW608 := am ((by rw [hg]; exact (below_size pB) : w.heap.size ≤ gb608)); have GE608 := am ((by rw [hg]; exact (below_size pB) : w.heap.size ≤ gb608)); have NB589_608 := am ((by rw [hg]; exact Nat.ne_of_lt (pkl BK589.out) : gb589 ≠ gb608)); have NB608_589 := am ((by rw [hg]; exact Nat.ne_of_gt (pkl BK589.out) : gb608 ≠ gb589)); replace BK589 := am (pkb BK589.out hb); replace HB := am (below_step pB hb); clear hb hbox hg; have hnb21 := NB608_589.out; have hnc21 := NB589_608.out; have q22 := cf11 BK608.out; obtain ⟨Ao23, co23, eo23⟩ := Kd.R_slice HO594.out; subst eo23; obtain ⟨Ao24, co24, eo24⟩ := Kd.V_slice HO600.out; subst eo24; obtain ⟨Ao25, co25, eo25⟩ := Kd.V_slice HO606.out; subst eo25; have q26 := cf11 BK589.out) | (go_at_call 15; (with_reducible refine (minstrelref19_Snaps.calls k t571 t572 _ _ t573 t576 t577 t578 _ _ t579 t582 t583 t584 _ _ t585 t590 t591 _ _ t592 t595 t596 t597 _ _ t598 t601 t602 t603 _ _ t604 true _ ?side1 ?side2 ?side3 ?side4 ?side5 ?side6 ?side7 ?side8 ?side9 ?side10 ?side11 ?side12 A6.out).mono ?_); (case side1 => refine (Kd.R_reads' (e := 3) (base := w.heap.size) (ok := fun k_ => (True ∧ some k_ ≠ (.slice Ao23 t592.length co23 : Value).ownBlock)) (n := t573.length) (c := co16) ?_).2.2; exact (by (with_reducible repeat (first | apply Kd.R_alloc | apply Kd.R_drewN | apply Kd.R_drew)); exact (Kd.R_mono (Kd.R_far (p := ⟨gb608, 10, none⟩) (Kd.R_far (p := ⟨gb608, 9, none⟩) (Kd.R_far (p := ⟨gb608, 8, none⟩) (Kd.R_far (p := ⟨gb608, 7, none⟩) (Kd.R_far (p := ⟨gb608, 6, none⟩) (Kd.R_far (p := ⟨gb608, 5, none⟩) (Kd.R_far (p := ⟨gb608, 4, none⟩) (Kd.R_far (p := ⟨gb608, 3, none⟩) (Kd.R_far (p := ⟨gb608, 2, none⟩) (Kd.R_far (p := ⟨gb608, 1, none⟩) (Kd.R_far (p := ⟨gb608, 0, none⟩) (Kd.R_types HO575.out BK608.out (by decide)) (fun _ hk => hk.2) (.int .u64 t590)) (fun _ hk => hk.2) (.int .u64 t591)) (fun _ hk => hk.2) (.slice Ao23 t592.length co23)) (fun _ hk => hk.2) (.int .i64 t595)) (fun _ hk => hk.2) (.int .u64 t596)) (fun _ hk => hk.2) (.string t597)) (fun _ hk => hk.2) (.slice Ao24 t598.length co24)) (fun _ hk => hk.2) (.int .i64 t601)) (fun _ hk => hk.2) (.int .u64 t602)) (fun _ hk => hk.2) (.string t603)) (fun _ hk => hk.2) (.slice Ao25 t604.length co25)) (fun _ h_ => h_.1)))); (case side2 => exact (Kd.R_reads' HO575.out).2.1); (case side3 => refine (Kd.V_reads' (e := 26) (base := w.heap.size) (ok := fun k_ => ((((some k_ ≠ (.slice Ao16 t573.length co16 : Value).ownBlock ∧ some k_ ≠ (.slice Ao12 y568.length co12 : Value).ownBlock) ∧ k_ ≠ gb589) ∧ some k_ ≠ (.slice Ao23 t592.length co23 : Value).ownBlock) ∧ k_ ≠ gb608)) (n := t579.length) (c := co17) ?_).2.2; exact (by (with_reducible repeat (first | apply Kd.V_alloc | apply Kd.V_drewN | apply Kd.V_drew)); exact (Kd.V_mono (Kd.V_far (p := ⟨gb608, 10, none⟩) (Kd.V_far (p := ⟨gb608, 9, none⟩) (Kd.V_far (p := ⟨gb608, 8, none⟩) (Kd.V_far (p := ⟨gb608, 7, none⟩) (Kd.V_far (p := ⟨gb608, 6, none⟩) (Kd.V_far (p := ⟨gb608, 5, none⟩) (Kd.V_far (p := ⟨gb608, 4, none⟩) (Kd.V_far (p := ⟨gb608, 3, none⟩) (Kd.V_far (p := ⟨gb608, 2, none⟩) (Kd.V_far (p := ⟨gb608, 1, none⟩) (Kd.V_far (p := ⟨gb608, 0, none⟩) (Kd.V_mono HO581.out (fun k_ hk => (⟨hk, hk.2⟩ : _ ∧ k_ ≠ gb608))) (fun _ hk => hk.2) (.int .u64 t590)) (fun _ hk => hk.2) (.int .u64 t591)) (fun _ hk => hk.2) (.slice Ao23 t592.length co23)) (fun _ hk => hk.2) (.int .i64 t595)) (fun _ hk => hk.2) (.int .u64 t596)) (fun _ hk => hk.2) (.string t597)) (fun _ hk => hk.2) (.slice Ao24 t598.length co24)) (fun _ hk => hk.2) (.int .i64 t601)) (fun _ hk => hk.2) (.int .u64 t602)) (fun _ hk => hk.2) (.string t603)) (fun _ hk => hk.2) (.slice Ao25 t604.length co25)) (fun _ h_ => h_.1)))); (case side4 => exact (Kd.V_reads' HO581.out).2.1); (case side5 => refine (Kd.V_reads' (e := 26) (base := w.heap.size) (ok := fun k_ => ((((some k_ ≠ (.slice Ao16 t573.length co16 : Value).ownBlock ∧ some k_ ≠ (.slice Ao12 y568.length co12 : Value).ownBlock) ∧ k_ ≠ gb589) ∧ some k_ ≠ (.slice Ao23 t592.length co23 : Value).ownBlock) ∧ k_ ≠ gb608)) (n := t585.length) (c := co18) ?_).2.2; exact (by (with_reducible repeat (first | apply Kd.V_alloc | apply Kd.V_drewN | apply Kd.V_drew)); exact (Kd.V_mono (Kd.V_far (p := ⟨gb608, 10, none⟩) (Kd.V_far (p := ⟨gb608, 9, none⟩) (Kd.V_far (p := ⟨gb608, 8, none⟩) (Kd.V_far (p := ⟨gb608, 7, none⟩) (Kd.V_far (p := ⟨gb608, 6, none⟩) (Kd.V_far (p := ⟨gb608, 5, none⟩) (Kd.V_far (p := ⟨gb608, 4, none⟩) (Kd.V_far (p := ⟨gb608, 3, none⟩) (Kd.V_far (p := ⟨gb608, 2, none⟩) (Kd.V_far (p := ⟨gb608, 1, none⟩) (Kd.V_far (p := ⟨gb608, 0, none⟩) (Kd.V_mono HO587.out (fun k_ hk => (⟨hk, hk.2⟩ : _ ∧ k_ ≠ gb608))) (fun _ hk => hk.2) (.int .u64 t590)) (fun _ hk => hk.2) (.int .u64 t591)) (fun _ hk => hk.2) (.slice Ao23 t592.length co23)) (fun _ hk => hk.2) (.int .i64 t595)) (fun _ hk => hk.2) (.int .u64 t596)) (fun _ hk => hk.2) (.string t597)) (fun _ hk => hk.2) (.slice Ao24 t598.length co24)) (fun _ hk => hk.2) (.int .i64 t601)) (fun _ hk => hk.2) (.int .u64 t602)) (fun _ hk => hk.2) (.string t603)) (fun _ hk => hk.2) (.slice Ao25 t604.length co25)) (fun _ h_ => h_.1)))); (case side6 => exact (Kd.V_reads' HO587.out).2.1); (case side7 => refine (Kd.R_reads' (e := 3) (base := w.heap.size) (ok := fun k_ => (True ∧ some k_ ≠ (.slice Ao16 t573.length co16 : Value).ownBlock)) (n := t592.length) (c := co23) ?_).2.2; exact (by (with_reducible repeat (first | apply Kd.R_alloc | apply Kd.R_drewN | apply Kd.R_drew)); exact (Kd.R_mono (Kd.R_far (p := ⟨gb608, 10, none⟩) (Kd.R_far (p := ⟨gb608, 9, none⟩) (Kd.R_far (p := ⟨gb608, 8, none⟩) (Kd.R_far (p := ⟨gb608, 7, none⟩) (Kd.R_far (p := ⟨gb608, 6, none⟩) (Kd.R_far (p := ⟨gb608, 5, none⟩) (Kd.R_far (p := ⟨gb608, 4, none⟩) (Kd.R_far (p := ⟨gb608, 3, none⟩) (Kd.R_far (p := ⟨gb608, 2, none⟩) (Kd.R_far (p := ⟨gb608, 1, none⟩) (Kd.R_far (p := ⟨gb608, 0, none⟩) (Kd.R_types HO594.out BK608.out (by decide)) (fun _ hk => hk.2) (.int .u64 t590)) (fun _ hk => hk.2) (.int .u64 t591)) (fun _ hk => hk.2) (.slice Ao23 t592.length co23)) (fun _ hk => hk.2) (.int .i64 t595)) (fun _ hk => hk.2) (.int .u64 t596)) (fun _ hk => hk.2) (.string t597)) (fun _ hk => hk.2) (.slice Ao24 t598.length co24)) (fun _ hk => hk.2) (.int .i64 t601)) (fun _ hk => hk.2) (.int .u64 t602)) (fun _ hk => hk.2) (.string t603)) (fun _ hk => hk.2) (.slice Ao25 t604.length co25)) (fun _ h_ => h_.1)))); (case side8 => exact (Kd.R_reads' HO594.out).2.1); (case side9 => refine (Kd.V_reads' (e := 26) (base := w.heap.size) (ok := fun k_ => ((some k_ ≠ (.slice Ao23 t592.length co23 : Value).ownBlock ∧ (some k_ ≠ (.slice Ao12 y568.length co12 : Value).ownBlock ∧ (some k_ ≠ (.slice Ao16 t573.length co16 : Value).ownBlock ∧ k_ ≠ gb589))) ∧ k_ ≠ gb608)) (n := t598.length) (c := co24) ?_).2.2; exact (by (with_reducible repeat (first | apply Kd.V_alloc | apply Kd.V_drewN | apply Kd.V_drew)); exact (Kd.V_mono (Kd.V_far (p := ⟨gb608, 10, none⟩) (Kd.V_far (p := ⟨gb608, 9, none⟩) (Kd.V_far (p := ⟨gb608, 8, none⟩) (Kd.V_far (p := ⟨gb608, 7, none⟩) (Kd.V_far (p := ⟨gb608, 6, none⟩) (Kd.V_far (p := ⟨gb608, 5, none⟩) (Kd.V_far (p := ⟨gb608, 4, none⟩) (Kd.V_far (p := ⟨gb608, 3, none⟩) (Kd.V_far (p := ⟨gb608, 2, none⟩) (Kd.V_far (p := ⟨gb608, 1, none⟩) (Kd.V_far (p := ⟨gb608, 0, none⟩) (Kd.V_mono HO600.out (fun k_ hk => (⟨hk, hk.2⟩ : _ ∧ k_ ≠ gb608))) (fun _ hk => hk.2) (.int .u64 t590)) (fun _ hk => hk.2) (.int .u64 t591)) (fun _ hk => hk.2) (.slice Ao23 t592.length co23)) (fun _ hk => hk.2) (.int .i64 t595)) (fun _ hk => hk.2) (.int .u64 t596)) (fun _ hk => hk.2) (.string t597)) (fun _ hk => hk.2) (.slice Ao24 t598.length co24)) (fun _ hk => hk.2) (.int .i64 t601)) (fun _ hk => hk.2) (.int .u64 t602)) (fun _ hk => hk.2) (.string t603)) (fun _ hk => hk.2) (.slice Ao25 t604.length co25)) (fun _ h_ => h_.1)))); (case side10 => exact (Kd.V_reads' HO600.out).2.1); (case side11 => refine (Kd.V_reads' (e := 26) (base := w.heap.size) (ok := fun k_ => ((some k_ ≠ (.slice Ao23 t592.length co23 : Value).ownBlock ∧ (some k_ ≠ (.slice Ao12 y568.length co12 : Value).ownBlock ∧ (some k_ ≠ (.slice Ao16 t573.length co16 : Value).ownBlock ∧ k_ ≠ gb589))) ∧ k_ ≠ gb608)) (n := t604.length) (c := co25) ?_).2.2; exact (by (with_reducible repeat (first | apply Kd.V_alloc | apply Kd.V_drewN | apply Kd.V_drew)); exact (Kd.V_mono (Kd.V_far (p := ⟨gb608, 10, none⟩) (Kd.V_far (p := ⟨gb608, 9, none⟩) (Kd.V_far (p := ⟨gb608, 8, none⟩) (Kd.V_far (p := ⟨gb608, 7, none⟩) (Kd.V_far (p := ⟨gb608, 6, none⟩) (Kd.V_far (p := ⟨gb608, 5, none⟩) (Kd.V_far (p := ⟨gb608, 4, none⟩) (Kd.V_far (p := ⟨gb608, 3, none⟩) (Kd.V_far (p := ⟨gb608, 2, none⟩) (Kd.V_far (p := ⟨gb608, 1, none⟩) (Kd.V_far (p := ⟨gb608, 0, none⟩) (Kd.V_mono HO606.out (fun k_ hk => (⟨hk, hk.2⟩ : _ ∧ k_ ≠ gb608))) (fun _ hk => hk.2) (.int .u64 t590)) (fun _ hk => hk.2) (.int .u64 t591)) (fun _ hk => hk.2) (.slice Ao23 t592.length co23)) (fun _ hk => hk.2) (.int .i64 t595)) (fun _ hk => hk.2) (.int .u64 t596)) (fun _ hk => hk.2) (.string t597)) (fun _ hk => hk.2) (.slice Ao24 t598.length co24)) (fun _ hk => hk.2) (.int .i64 t601)) (fun _ hk => hk.2) (.int .u64 t602)) (fun _ hk => hk.2) (.string t603)) (fun _ hk => hk.2) (.slice Ao25 t604.length co25)) (fun _ h_ => h_.1)))); (case side12 => exact (Kd.V_reads' HO606.out).2.1); rintro e w27 ⟨rfl, hb⟩; replace HO570 := am (Kd.R_below (by (with_reducible repeat (first | apply Kd.R_alloc | apply Kd.R_drewN | apply Kd.R_drew)); exact (Kd.R_mono (Kd.R_far (p := ⟨gb608, 10, none⟩) (Kd.R_far (p := ⟨gb608, 9, none⟩) (Kd.R_far (p := ⟨gb608, 8, none⟩) (Kd.R_far (p := ⟨gb608, 7, none⟩) (Kd.R_far (p := ⟨gb608, 6, none⟩) (Kd.R_far (p := ⟨gb608, 5, none⟩) (Kd.R_far (p := ⟨gb608, 4, none⟩) (Kd.R_far (p := ⟨gb608, 3, none⟩) (Kd.R_far (p := ⟨gb608, 2, none⟩) (Kd.R_far (p := ⟨gb608, 1, none⟩) (Kd.R_far (p := ⟨gb608, 0, none⟩) (Kd.R_types HO570.out BK608.out (by decide)) (fun _ hk => hk.2) (.int .u64 t590)) (fun _ hk => hk.2) (.int .u64 t591)) (fun _ hk => hk.2) (.slice Ao23 t592.length co23)) (fun _ hk => hk.2) (.int .i64 t595)) (fun _ hk => hk.2) (.int .u64 t596)) (fun _ hk => hk.2) (.string t597)) (fun _ hk => hk.2) (.slice Ao24 t598.length co24)) (fun _ hk => hk.2) (.int .i64 t601)) (fun _ hk => hk.2) (.int .u64 t602)) (fun _ hk => hk.2) (.string t603)) (fun _ hk => hk.2) (.slice Ao25 t604.length co25)) (fun _ h_ => h_.1))) hb); replace HO575 := am (Kd.R_below (by (with_reducible repeat (first | apply Kd.R_alloc | apply Kd.R_drewN | apply Kd.R_drew)); exact (Kd.R_mono (Kd.R_far (p := ⟨gb608, 10, none⟩) (Kd.R_far (p := ⟨gb608, 9, none⟩) (Kd.R_far (p := ⟨gb608, 8, none⟩) (Kd.R_far (p := ⟨gb608, 7, none⟩) (Kd.R_far (p := ⟨gb608, 6, none⟩) (Kd.R_far (p := ⟨gb608, 5, none⟩) (Kd.R_far (p := ⟨gb608, 4, none⟩) (Kd.R_far (p := ⟨gb608, 3, none⟩) (Kd.R_far (p := ⟨gb608, 2, none⟩) (Kd.R_far (p := ⟨gb608, 1, none⟩) (Kd.R_far (p := ⟨gb608, 0, none⟩) (Kd.R_types HO575.out BK608.out (by decide)) (fun _ hk => hk.2) (.int .u64 t590)) (fun _ hk => hk.2) (.int .u64 t591)) (fun _ hk => hk.2) (.slice Ao23 t592.length co23)) (fun _ hk => hk.2) (.int .i64 t595)) (fun _ hk => hk.2) (.int .u64 t596)) (fun _ hk => hk.2) (.string t597)) (fun _ hk => hk.2) (.slice Ao24 t598.length co24)) (fun _ hk => hk.2) (.int .i64 t601)) (fun _ hk => hk.2) (.int .u64 t602)) (fun _ hk => hk.2) (.string t603)) (fun _ hk => hk.2) (.slice Ao25 t604.length co25)) (fun _ h_ => h_.1))) hb); replace HO581 := am (Kd.V_below (by (with_reducible repeat (first | apply Kd.V_alloc | apply Kd.V_drewN | apply Kd.V_drew)); exact (Kd.V_mono (Kd.V_far (p := ⟨gb608, 10, none⟩) (Kd.V_far (p := ⟨gb608, 9, none⟩) (Kd.V_far (p := ⟨gb608, 8, none⟩) (Kd.V_far (p := ⟨gb608, 7, none⟩) (Kd.V_far (p := ⟨gb608, 6, none⟩) (Kd.V_far (p := ⟨gb608, 5, none⟩) (Kd.V_far (p := ⟨gb608, 4, none⟩) (Kd.V_far (p := ⟨gb608, 3, none⟩) (Kd.V_far (p := ⟨gb608, 2, none⟩) (Kd.V_far (p := ⟨gb608, 1, none⟩) (Kd.V_far (p := ⟨gb608, 0, none⟩) (Kd.V_mono HO581.out (fun k_ hk => (⟨hk, hk.2⟩ : _ ∧ k_ ≠ gb608))) (fun _ hk => hk.2) (.int .u64 t590)) (fun _ hk => hk.2) (.int .u64 t591)) (fun _ hk => hk.2) (.slice Ao23 t592.length co23)) (fun _ hk => hk.2) (.int .i64 t595)) (fun _ hk => hk.2) (.int .u64 t596)) (fun _ hk => hk.2) (.string t597)) (fun _ hk => hk.2) (.slice Ao24 t598.length co24)) (fun _ hk => hk.2) (.int .i64 t601)) (fun _ hk => hk.2) (.int .u64 t602)) (fun _ hk => hk.2) (.string t603)) (fun _ hk => hk.2) (.slice Ao25 t604.length co25)) (fun _ h_ => h_.1))) hb); replace HO587 := am (Kd.V_below (by (with_reducible repeat (first | apply Kd.V_alloc | apply Kd.V_drewN | apply Kd.V_drew)); exact (Kd.V_mono (Kd.V_far (p := ⟨gb608, 10, none⟩) (Kd.V_far (p := ⟨gb608, 9, none⟩) (Kd.V_far (p := ⟨gb608, 8, none⟩) (Kd.V_far (p := ⟨gb608, 7, none⟩) (Kd.V_far (p := ⟨gb608, 6, none⟩) (Kd.V_far (p := ⟨gb608, 5, none⟩) (Kd.V_far (p := ⟨gb608, 4, none⟩) (Kd.V_far (p := ⟨gb608, 3, none⟩) (Kd.V_far (p := ⟨gb608, 2, none⟩) (Kd.V_far (p := ⟨gb608, 1, none⟩) (Kd.V_far (p := ⟨gb608, 0, none⟩) (Kd.V_mono HO587.out (fun k_ hk => (⟨hk, hk.2⟩ : _ ∧ k_ ≠ gb608))) (fun _ hk => hk.2) (.int .u64 t590)) (fun _ hk => hk.2) (.int .u64 t591)) (fun _ hk => hk.2) (.slice Ao23 t592.length co23)) (fun _ hk => hk.2) (.int .i64 t595)) (fun _ hk => hk.2) (.int .u64 t596)) (fun _ hk => hk.2) (.string t597)) (fun _ hk => hk.2) (.slice Ao24 t598.length co24)) (fun _ hk => hk.2) (.int .i64 t601)) (fun _ hk => hk.2) (.int .u64 t602)) (fun _ hk => hk.2) (.string t603)) (fun _ hk => hk.2) (.slice Ao25 t604.length co25)) (fun _ h_ => h_.1))) hb); replace HO594 := am (Kd.R_below (by (with_reducible repeat (first | apply Kd.R_alloc | apply Kd.R_drewN | apply Kd.R_drew)); exact (Kd.R_mono (Kd.R_far (p := ⟨gb608, 10, none⟩) (Kd.R_far (p := ⟨gb608, 9, none⟩) (Kd.R_far (p := ⟨gb608, 8, none⟩) (Kd.R_far (p := ⟨gb608, 7, none⟩) (Kd.R_far (p := ⟨gb608, 6, none⟩) (Kd.R_far (p := ⟨gb608, 5, none⟩) (Kd.R_far (p := ⟨gb608, 4, none⟩) (Kd.R_far (p := ⟨gb608, 3, none⟩) (Kd.R_far (p := ⟨gb608, 2, none⟩) (Kd.R_far (p := ⟨gb608, 1, none⟩) (Kd.R_far (p := ⟨gb608, 0, none⟩) (Kd.R_types HO594.out BK608.out (by decide)) (fun _ hk => hk.2) (.int .u64 t590)) (fun _ hk => hk.2) (.int .u64 t591)) (fun _ hk => hk.2) (.slice Ao23 t592.length co23)) (fun _ hk => hk.2) (.int .i64 t595)) (fun _ hk => hk.2) (.int .u64 t596)) (fun _ hk => hk.2) (.string t597)) (fun _ hk => hk.2) (.slice Ao24 t598.length co24)) (fun _ hk => hk.2) (.int .i64 t601)) (fun _ hk => hk.2) (.int .u64 t602)) (fun _ hk => hk.2) (.string t603)) (fun _ hk => hk.2) (.slice Ao25 t604.length co25)) (fun _ h_ => h_.1))) hb); replace HO600 := am (Kd.V_below (by (with_reducible repeat (first | apply Kd.V_alloc | apply Kd.V_drewN | apply Kd.V_drew)); exact (Kd.V_mono (Kd.V_far (p := ⟨gb608, 10, none⟩) (Kd.V_far (p := ⟨gb608, 9, none⟩) (Kd.V_far (p := ⟨gb608, 8, none⟩) (Kd.V_far (p := ⟨gb608, 7, none⟩) (Kd.V_far (p := ⟨gb608, 6, none⟩) (Kd.V_far (p := ⟨gb608, 5, none⟩) (Kd.V_far (p := ⟨gb608, 4, none⟩) (Kd.V_far (p := ⟨gb608, 3, none⟩) (Kd.V_far (p := ⟨gb608, 2, none⟩) (Kd.V_far (p := ⟨gb608, 1, none⟩) (Kd.V_far (p := ⟨gb608, 0, none⟩) (Kd.V_mono HO600.out (fun k_ hk => (⟨hk, hk.2⟩ : _ ∧ k_ ≠ gb608))) (fun _ hk => hk.2) (.int .u64 t590)) (fun _ hk => hk.2) (.int .u64 t591)) (fun _ hk => hk.2) (.slice Ao23 t592.length co23)) (fun _ hk => hk.2) (.int .i64 t595)) (fun _ hk => hk.2) (.int .u64 t596)) (fun _ hk => hk.2) (.string t597)) (fun _ hk => hk.2) (.slice Ao24 t598.length co24)) (fun _ hk => hk.2) (.int .i64 t601)) (fun _ hk => hk.2) (.int .u64 t602)) (fun _ hk => hk.2) (.string t603)) (fun _ hk => hk.2) (.slice Ao25 t604.length co25)) (fun _ h_ => h_.1))) hb); replace HO606 := am (Kd.V_below (by (with_reducible repeat (first | apply Kd.V_alloc | apply Kd.V_drewN | apply Kd.V_drew)); exact (Kd.V_mono (Kd.V_far (p := ⟨gb608, 10, none⟩) (Kd.V_far (p := ⟨gb608, 9, none⟩) (Kd.V_far (p := ⟨gb608, 8, none⟩) (Kd.V_far (p := ⟨gb608, 7, none⟩) (Kd.V_far (p := ⟨gb608, 6, none⟩) (Kd.V_far (p := ⟨gb608, 5, none⟩) (Kd.V_far (p := ⟨gb608, 4, none⟩) (Kd.V_far (p := ⟨gb608, 3, none⟩) (Kd.V_far (p := ⟨gb608, 2, none⟩) (Kd.V_far (p := ⟨gb608, 1, none⟩) (Kd.V_far (p := ⟨gb608, 0, none⟩) (Kd.V_mono HO606.out (fun k_ hk => (⟨hk, hk.2⟩ : _ ∧ k_ ≠ gb608))) (fun _ hk => hk.2) (.int .u64 t590)) (fun _ hk => hk.2) (.int .u64 t591)) (fun _ hk => hk.2) (.slice Ao23 t592.length co23)) (fun _ hk => hk.2) (.int .i64 t595)) (fun _ hk => hk.2) (.int .u64 t596)) (fun _ hk => hk.2) (.string t597)) (fun _ hk => hk.2) (.slice Ao24 t598.length co24)) (fun _ hk => hk.2) (.int .i64 t601)) (fun _ hk => hk.2) (.int .u64 t602)) (fun _ hk => hk.2) (.string t603)) (fun _ hk => hk.2) (.slice Ao25 t604.length co25)) (fun _ h_ => h_.1))) hb); replace BK589 := am (blk_below (g := gb589) (o := .cells #[.int .u64 t571, .int .u64 t572, .slice Ao16 t573.length co16, .int .i64 t576, .int .u64 t577, .string t578, .slice Ao17 t579.length co17, .int .i64 t582, .int .u64 t583, .string t584, .slice Ao18 t585.length co18] 28 (0, 0)) (by (with_reducible repeat (first | refine blk_drewN ?_ _ | refine blk_drew ?_ | refine blk_alloc ?_ _)); refine blk_far ?_ NB589_608.out _; (with_reducible repeat (first | refine blk_drewN ?_ _ | refine blk_drew ?_ | refine blk_alloc ?_ _)); refine blk_far ?_ NB589_608.out _; (with_reducible repeat (first | refine blk_drewN ?_ _ | refine blk_drew ?_ | refine blk_alloc ?_ _)); refine blk_far ?_ NB589_608.out _; (with_reducible repeat (first | refine blk_drewN ?_ _ | refine blk_drew ?_ | refine blk_alloc ?_ _)); refine blk_far ?_ NB589_608.out _; (with_reducible repeat (first | refine blk_drewN ?_ _ | refine blk_drew ?_ | refine blk_alloc ?_ _)); refine blk_far ?_ NB589_608.out _; (with_reducible repeat (first | refine blk_drewN ?_ _ | refine blk_drew ?_ | refine blk_alloc ?_ _)); refine blk_far ?_ NB589_608.out _; (with_reducible repeat (first | refine blk_drewN ?_ _ | refine blk_drew ?_ | refine blk_alloc ?_ _)); refine blk_far ?_ NB589_608.out _; (with_reducible repeat (first | refine blk_drewN ?_ _ | refine blk_drew ?_ | refine blk_alloc ?_ _)); refine blk_far ?_ NB589_608.out _; (with_reducible repeat (first | refine blk_drewN ?_ _ | refine blk_drew ?_ | refine blk_alloc ?_ _)); refine blk_far ?_ NB589_608.out _; (with_reducible repeat (first | refine blk_drewN ?_ _ | refine blk_drew ?_ | refine blk_alloc ?_ _)); refine blk_far ?_ NB589_608.out _; (with_reducible repeat (first | refine blk_drewN ?_ _ | refine blk_drew ?_ | refine blk_alloc ?_ _)); refine blk_far ?_ NB589_608.out _; (with_reducible repeat (first | refine blk_drewN ?_ _ | refine blk_drew ?_ | refine blk_alloc ?_ _)); exact BK589.out) hb); replace BK608 := am (blk_below (g := gb608) (o := .cells #[.int .u64 t590, .int .u64 t591, .slice Ao23 t592.length co23, .int .i64 t595, .int .u64 t596, .string t597, .slice Ao24 t598.length co24, .int .i64 t601, .int .u64 t602, .string t603, .slice Ao25 t604.length co25] 28 (0, 0)) (by (with_reducible repeat (first | refine blk_drewN ?_ _ | refine blk_drew ?_ | refine blk_alloc ?_ _)); refine blk_put (cs := #[.int .u64 t590, .int .u64 t591, .slice Ao23 t592.length co23, .int .i64 t595, .int .u64 t596, .string t597, .slice Ao24 t598.length co24, .int .i64 t601, .int .u64 t602, .string t603, .slice none 0 0]) ?_ 10 _ rfl; (with_reducible repeat (first | refine blk_drewN ?_ _ | refine blk_drew ?_ | refine blk_alloc ?_ _)); refine blk_put (cs := #[.int .u64 t590, .int .u64 t591, .slice Ao23 t592.length co23, .int .i64 t595, .int .u64 t596, .string t597, .slice Ao24 t598.length co24, .int .i64 t601, .int .u64 t602, .string (⟨#[]⟩ : ByteArray), .slice none 0 0]) ?_ 9 _ rfl; (with_reducible repeat (first | refine blk_drewN ?_ _ | refine blk_drew ?_ | refine blk_alloc ?_ _)); refine blk_put (cs := #[.int .u64 t590, .int .u64 t591, .slice Ao23 t592.length co23, .int .i64 t595, .int .u64 t596, .string t597, .slice Ao24 t598.length co24, .int .i64 t601, .int .u64 0, .string (⟨#[]⟩ : ByteArray), .slice none 0 0]) ?_ 8 _ rfl; (with_reducible repeat (first | refine blk_drewN ?_ _ | refine blk_drew ?_ | refine blk_alloc ?_ _)); refine blk_put (cs := #[.int .u64 t590, .int .u64 t591, .slice Ao23 t592.length co23, .int .i64 t595, .int .u64 t596, .string t597, .slice Ao24 t598.length co24, .int .i64 0, .int .u64 0, .string (⟨#[]⟩ : ByteArray), .slice none 0 0]) ?_ 7 _ rfl; (with_reducible repeat (first | refine blk_drewN ?_ _ | refine blk_drew ?_ | refine blk_alloc ?_ _)); refine blk_put (cs := #[.int .u64 t590, .int .u64 t591, .slice Ao23 t592.length co23, .int .i64 t595, .int .u64 t596, .string t597, .slice none 0 0, .int .i64 0, .int .u64 0, .string (⟨#[]⟩ : ByteArray), .slice none 0 0]) ?_ 6 _ rfl; (with_reducible repeat (first | refine blk_drewN ?_ _ | refine blk_drew ?_ | refine blk_alloc ?_ _)); refine blk_put (cs := #[.int .u64 t590, .int .u64 t591, .slice Ao23 t592.length co23, .int .i64 t595, .int .u64 t596, .string (⟨#[]⟩ : ByteArray), .slice none 0 0, .int .i64 0, .int .u64 0, .string (⟨#[]⟩ : ByteArray), .slice none 0 0]) ?_ 5 _ rfl; (with_reducible repeat (first | refine blk_drewN ?_ _ | refine blk_drew ?_ | refine blk_alloc ?_ _)); refine blk_put (cs := #[.int .u64 t590, .int .u64 t591, .slice Ao23 t592.length co23, .int .i64 t595, .int .u64 0, .string (⟨#[]⟩ : ByteArray), .slice none 0 0, .int .i64 0, .int .u64 0, .string (⟨#[]⟩ : ByteArray), .slice none 0 0]) ?_ 4 _ rfl; (with_reducible repeat (first | refine blk_drewN ?_ _ | refine blk_drew ?_ | refine blk_alloc ?_ _)); refine blk_put (cs := #[.int .u64 t590, .int .u64 t591, .slice Ao23 t592.length co23, .int .i64 0, .int .u64 0, .string (⟨#[]⟩ : ByteArray), .slice none 0 0, .int .i64 0, .int .u64 0, .string (⟨#[]⟩ : ByteArray), .slice none 0 0]) ?_ 3 _ rfl; (with_reducible repeat (first | refine blk_drewN ?_ _ | refine blk_drew ?_ | refine blk_alloc ?_ _)); refine blk_put (cs := #[.int .u64 t590, .int .u64 t591, .slice none 0 0, .int .i64 0, .int .u64 0, .string (⟨#[]⟩ : ByteArray), .slice none 0 0, .int .i64 0, .int .u64 0, .string (⟨#[]⟩ : ByteArray), .slice none 0 0]) ?_ 2 _ rfl; (with_reducible repeat (first | refine blk_drewN ?_ _ | refine blk_drew ?_ | refine blk_alloc ?_ _)); refine blk_put (cs := #[.int .u64 t590, .int .u64 0, .slice none 0 0, .int .i64 0, .int .u64 0, .string (⟨#[]⟩ : ByteArray), .slice none 0 0, .int .i64 0, .int .u64 0, .string (⟨#[]⟩ : ByteArray), .slice none 0 0]) ?_ 1 _ rfl; (with_reducible repeat (first | refine blk_drewN ?_ _ | refine blk_drew ?_ | refine blk_alloc ?_ _)); refine blk_put (cs := zS_) ?_ 0 _ rfl; (with_reducible repeat (first | refine blk_drewN ?_ _ | refine blk_drew ?_ | refine blk_alloc ?_ _)); exact BK608.out) hb); replace HB := am (below_step pB hb); (try clear hb); (try clear hb2); (try clear hk); (try clear hi)) | (go_at_call 8; (with_reducible refine (minstrellaw19_lives.calls k  t610 _ ?side1 A8.out).mono ?_); (case side1 => exact pG); rintro e w28 ⟨rfl, hb⟩; replace HB := am (below_step pB hb)))
    go_ret
    exact ⟨pE, pB⟩
   ·replace c7 := Bool.eq_false_iff.mpr c7
    subst c7
    rw [if_neg (show ¬ (false = true) by decide)] at H
    exact absurd H (by simp)
  ·rw [if_neg c5] at H
   exact absurd H (by simp)
 ·rw [if_neg c2] at H
  exact absurd H (by simp)
def minstrellaw19_SnapLoads.Pure : Prop := ∀ (l0 : List Int), l0.length ≤ maxLen → l0.length * 1 ≤ 140737488351232 → (∀ x ∈ l0, (Lit.int .u8 x).wf = true) → ∃ k, minstrellaw19_SnapLoads.f k l0 = some true
def minstrellaw19_SnapWhole.j0 : Nat → Int → Bool → Int → Int → List Int → Int → Int → ByteArray → List (S26) → Int → Int → ByteArray → List (S26) → Option (Bool)
 | 0, _, _, _, _, _, _, _, _, _, _, _, _, _ => none
 | k + 1, x1, x21, x612000, x612001, x612002, x612003, x612004, x612005, x612006, x612007, x612008, x612009, x612010 => if x21 = true then ((minstrellaw19_lives.f k).bind fun t614 => (some t614)) else ((minstrellaw19_own.f k x612000 x612001 x612002 x612003 x612004 x612005 x612006 x612007 x612008 x612009 x612010).bind fun bt615 => ((snap_Save.f k bt615.1 bt615.2.1 bt615.2.2.1 bt615.2.2.2.1 bt615.2.2.2.2.1 bt615.2.2.2.2.2.1 bt615.2.2.2.2.2.2.1 bt615.2.2.2.2.2.2.2.1 bt615.2.2.2.2.2.2.2.2.1 bt615.2.2.2.2.2.2.2.2.2.1 bt615.2.2.2.2.2.2.2.2.2.2).bind fun bt632 => (if bt632.2 = 0 then (if (bt632.1.length : Int) < 8 then (none) else ((some (([] : List Int) : List Int)).bind fun y637 => (if (bt632.1.length : Int) = 0 then (none) else (if 0 ≤ (Int.tmod (wrap64 (x1)) (bt632.1.length : Int)) then (if (Int.tmod (wrap64 (x1)) (bt632.1.length : Int)) ≤ (bt632.1.length : Int) then ((some (bt632.1.take ((Int.tmod (wrap64 (x1)) (bt632.1.length : Int)) : Int).toNat : List Int)).bind fun y640 => (if y637.length + y640.length < 140737488355328 then ((snap_Load.f k (y637 ++ y640)).bind fun bt647 => (if (wrap64 ((bt632.1.length : Int) - 4)) = 0 then (none) else (if 0 ≤ (wrap64 (4 + (Int.tmod (wrap64 (x1)) (wrap64 ((bt632.1.length : Int) - 4))))) then (if (wrap64 (4 + (Int.tmod (wrap64 (x1)) (wrap64 ((bt632.1.length : Int) - 4))))) < (bt632.1.length : Int) then (if 0 ≤ (IntKind.u64.wrap (Int.tmod x1 8)) then ((snap_Load.f k (bt632.1.set ((wrap64 (4 + (Int.tmod (wrap64 (x1)) (wrap64 ((bt632.1.length : Int) - 4))))) : Int).toNat (Go.bits .xor .u8 (rd bt632.1 (wrap64 (4 + (Int.tmod (wrap64 (x1)) (wrap64 ((bt632.1.length : Int) - 4)))))) (shl .u8 1 (IntKind.u64.wrap (Int.tmod x1 8)))))).bind fun bt668 => (if bt647.2.2.2.2.2.2.2.2.2.2.2 = 4 then (if bt668.2.2.2.2.2.2.2.2.2.2.2 = 4 then ((minstrellaw19_lives.f k).bind fun t687 => (some t687)) else (none)) else (none))) else (none)) else (none)) else (none)))) else (none))) else (none)) else (none))))) else ((minstrellaw19_lives.f k).bind fun t636 => (some t636)))))
def minstrellaw19_SnapWhole.f (k : Nat) (a0_0 : Int) (a0_1 : Int) (l0_2 : List Int) (a0_3 : Int) (a0_4 : Int) (a0_5 : ByteArray) (l0_6 : List (S26)) (a0_7 : Int) (a0_8 : Int) (a0_9 : ByteArray) (l0_10 : List (S26)) (a1 : Int) : Option (Bool) := (minstrellaw19_small.f k a0_3 a0_4 a0_5 l0_6).bind fun t612 => (if t612 = true then ((minstrellaw19_small.f k a0_7 a0_8 a0_9 l0_10).bind fun t613 => (minstrellaw19_SnapWhole.j0 k a1 (!t613) a0_0 a0_1 l0_2 a0_3 a0_4 a0_5 l0_6 a0_7 a0_8 a0_9 l0_10)) else (minstrellaw19_SnapWhole.j0 k a1 true a0_0 a0_1 l0_2 a0_3 a0_4 a0_5 l0_6 a0_7 a0_8 a0_9 l0_10))
theorem minstrellaw19_SnapWhole.mono_l : ∀ k, (∀ y0 y1 y2 y3 y4 y5 y6 y7 y8 y9 y10 y11 y12, LeO (minstrellaw19_SnapWhole.j0 k y0 y1 y2 y3 y4 y5 y6 y7 y8 y9 y10 y11 y12) (minstrellaw19_SnapWhole.j0 (k + 1) y0 y1 y2 y3 y4 y5 y6 y7 y8 y9 y10 y11 y12))
 | 0 => fun _ _ _ _ _ _ _ _ _ _ _ _ _ r h => by simp [minstrellaw19_SnapWhole.j0] at h
 | k + 1 => by
  have ih0 := minstrellaw19_SnapWhole.mono_l k
  ·intro y0 y1 y2 y3 y4 y5 y6 y7 y8 y9 y10 y11 y12
   unfold minstrellaw19_SnapWhole.j0
   repeat' first
   | (with_reducible exact ih0 _ _ _ _ _ _ _ _ _ _ _ _ _)
   | (with_reducible exact minstrellaw19_lives.mono _)
   | (with_reducible exact minstrellaw19_own.mono _ _ _ _ _ _ _ _ _ _ _ _)
   | (with_reducible exact minstrellaw19_small.mono _ _ _ _ _)
   | (with_reducible exact snap_Load.mono _ _)
   | (with_reducible exact snap_Save.mono _ _ _ _ _ _ _ _ _ _ _ _)
   | (with_reducible exact LeO.refl _)
   | (with_reducible exact LeO.none _)
   | (with_reducible refine LeO.ite ?_ ?_)
   | (with_reducible refine LeO.bind ?_ (fun _ => ?_))
   | exact ih0 _ _ _ _ _ _ _ _ _ _ _ _ _
   | exact minstrellaw19_lives.mono _
   | exact minstrellaw19_own.mono _ _ _ _ _ _ _ _ _ _ _ _
   | exact minstrellaw19_small.mono _ _ _ _ _
   | exact snap_Load.mono _ _
   | exact snap_Save.mono _ _ _ _ _ _ _ _ _ _ _ _
   | exact LeO.none _
   | refine LeO.ite ?_ ?_
   | refine LeO.bind ?_ (fun _ => ?_)
theorem minstrellaw19_SnapWhole.mono : ∀ a0 a1 a2 a3 a4 a5 a6 a7 a8 a9 a10 a11 k, LeO (minstrellaw19_SnapWhole.f k a0 a1 a2 a3 a4 a5 a6 a7 a8 a9 a10 a11) (minstrellaw19_SnapWhole.f (k + 1) a0 a1 a2 a3 a4 a5 a6 a7 a8 a9 a10 a11) := by
 intro a0 a1 a2 a3 a4 a5 a6 a7 a8 a9 a10 a11 k
 have ih0 := minstrellaw19_SnapWhole.mono_l k
 unfold minstrellaw19_SnapWhole.f
 repeat' first
   | (with_reducible exact ih0 _ _ _ _ _ _ _ _ _ _ _ _ _)
   | (with_reducible exact minstrellaw19_lives.mono _)
   | (with_reducible exact minstrellaw19_own.mono _ _ _ _ _ _ _ _ _ _ _ _)
   | (with_reducible exact minstrellaw19_small.mono _ _ _ _ _)
   | (with_reducible exact snap_Load.mono _ _)
   | (with_reducible exact snap_Save.mono _ _ _ _ _ _ _ _ _ _ _ _)
   | (with_reducible exact LeO.refl _)
   | (with_reducible exact LeO.none _)
   | (with_reducible refine LeO.ite ?_ ?_)
   | (with_reducible refine LeO.bind ?_ (fun _ => ?_))
   | exact ih0 _ _ _ _ _ _ _ _ _ _ _ _ _
   | exact minstrellaw19_lives.mono _
   | exact minstrellaw19_own.mono _ _ _ _ _ _ _ _ _ _ _ _
   | exact minstrellaw19_small.mono _ _ _ _ _
   | exact snap_Load.mono _ _
   | exact snap_Save.mono _ _ _ _ _ _ _ _ _ _ _ _
   | exact LeO.none _
   | refine LeO.ite ?_ ?_
   | refine LeO.bind ?_ (fun _ => ?_)
def code_Text.f (a0 : ByteArray) : Option (Int × Int × ByteArray × (List (S26))) := some (1, 0, a0, ([] : List (S26)))
end Go.Proofs.YtlkaffbgekbcfaaDoor.Pr
end
section
namespace Go.Proofs.YtlkaffbgekbcfaaDoor.Pr
open Go.RowKit Go.Proofs.YtlkaffbgekbcfaaDoorW.PrintWords Go.Proofs.YtlkaffbgekbcfaaDoorW.PrintLast Go.Proofs.YtlkaffbgekbcfaaDoorW.PrintMore
theorem rd_at (L : List S26) (j : Nat) (h : j < L.length) : rd_T26 L (j : Int) = L[j] := by
 unfold rd_T26
 rw [Int.toNat_natCast, List.getD_eq_getElem?_getD, List.getElem?_eq_getElem h]
 rfl
def allC {α : Type} (f : α → α → Option Bool) : List α → List α → Option Bool
 | x :: xs, y :: ys => (f x y).bind fun r => if r then allC f xs ys else some false
 | _, _ => some true
def sameC : Nat → S26 → S26 → Option Bool
 | 0, _, _ => none
 | k + 1, a, b =>
  if a.f0 = b.f0 then
   if a.f0 = 0 then some (a.f1 == b.f1)
   else if a.f0 = 1 then some (a.f2.toList == b.f2.toList)
   else if a.f0 = 2 then if a.f3.length = b.f3.length then allC (sameC k) a.f3 b.f3 else some false
   else some true
  else some false
end Go.Proofs.YtlkaffbgekbcfaaDoor.Pr
end
section
namespace Go.Proofs.YtlkaffbgekbcfaaDoor.Pure
open Go.RowKit Go.Proofs.YtlkaffbgekbcfaaDoor.Pr Go.Proofs.YtlkaffbgekbcfaaDoorW.PrintWords Go.Proofs.YtlkaffbgekbcfaaDoorW.PrintLast Go.Proofs.YtlkaffbgekbcfaaDoorW.PrintMore
def Bts (bs : List Int) : Prop := ∀ x ∈ bs, 0 ≤ x ∧ x < 256
theorem Bts.nil : Bts [] := fun _ h => by cases h
theorem Bts.take {bs : List Int} (h : Bts bs) (n : Nat) : Bts (bs.take n) := fun x hx => h x (List.mem_of_mem_take hx)
theorem Bts.drop {bs : List Int} (h : Bts bs) (n : Nat) : Bts (bs.drop n) := fun x hx => h x (List.mem_of_mem_drop hx)
theorem Bts.tail {b : Int} {bs : List Int} (h : Bts (b :: bs)) : Bts bs := fun x hx => h x (List.mem_cons_of_mem _ hx)
theorem Bts.head {b : Int} {bs : List Int} (h : Bts (b :: bs)) : 0 ≤ b ∧ b < 256 := h b (List.mem_cons_self ..)
theorem Bts.append {a b : List Int} (h : Bts a) (k : Bts b) : Bts (a ++ b) := fun x hx => (List.mem_append.1 hx).elim (h x) (k x)
theorem Bts.cons {b : Int} {bs : List Int} (h : 0 ≤ b ∧ b < 256) (k : Bts bs) : Bts (b :: bs) := fun x hx => by
 rcases List.mem_cons.1 hx with rfl | hx
 ·exact h
 ·exact k x hx
theorem or_byte (n x : Int) (h0 : 0 ≤ n) (h1 : n < 72057594037927936) (h2 : 0 ≤ x) (h3 : x < 256) : Go.bits .or .u64 (IntKind.u64.wrap (n * 256)) (IntKind.u64.wrap x) = n * 256 + x := by
 rw [IntWalk.u64_in (n * 256) (by omega), IntWalk.u64_in x (by omega)]
 obtain ⟨a, rfl⟩ := Int.eq_ofNat_of_zero_le h0
 obtain ⟨b, rfl⟩ := Int.eq_ofNat_of_zero_le h2
 have h := bits_or_u64_nat (256 * a) b (by omega) (by omega)
 have e : (256 * a ||| b) = 256 * a + b := by
  have := Nat.two_pow_add_eq_or_of_lt (i := 8) (b := b) (by omega) a
  simpa using this.symm
 rw [e] at h
 have e1 : ((a : Int) * 256) = ((256 * a : Nat) : Int) := by omega
 have e2 : (((256 * a + b : Nat)) : Int) = (a : Int) * 256 + (b : Int) := by omega
 rw [← e2, e1]
 exact h
def beV : List Int → Int → Int
 | [], n => n
 | x :: xs, n => beV xs (n * 256 + x)
theorem numR_eq : ∀ (xs : List Int) (n : Int) (m : Nat), Bts xs → 0 ≤ n → n < 256 ^ m → m + xs.length ≤ 8 → numR xs n = beV xs n
 | [], n, m, hb, h0, h1, hm => rfl
 | x :: xs, n, m, hb, h0, h1, hm => by
  rw [List.length_cons] at hm
  have hx := hb.head
  have hn : n < 72057594037927936 := Int.lt_of_lt_of_le h1 (by
   have h7 : (256 : Nat) ^ m ≤ 256 ^ 7 := Nat.pow_le_pow_right (by decide) (show m ≤ 7 by omega)
   have h8 : ((256 ^ m : Nat) : Int) ≤ ((72057594037927936 : Nat) : Int) := Int.ofNat_le.2 h7
   rwa [Int.natCast_pow] at h8)
  simp only [numR, beV]
  rw [or_byte n x h0 hn hx.1 hx.2]
  refine numR_eq xs (n * 256 + x) (m + 1) hb.tail (by omega) ?_ (by omega)
  rw [Int.pow_succ]
  omega
theorem beV_bound : ∀ (xs : List Int) (n : Int) (m : Nat), Bts xs → 0 ≤ n → n < 256 ^ m → 0 ≤ beV xs n ∧ beV xs n < 256 ^ (m + xs.length)
 | [], n, m, hb, h0, h1 => ⟨h0, h1⟩
 | x :: xs, n, m, hb, h0, h1 => by
  have hx := hb.head
  have := beV_bound xs (n * 256 + x) (m + 1) hb.tail (by omega) (by rw [Int.pow_succ]; omega)
  rw [List.length_cons, show m + (xs.length + 1) = m + 1 + xs.length by omega]
  exact this
theorem be4 (a b c d : Int) (ha : 0 ≤ a ∧ a < 256) (hb : 0 ≤ b ∧ b < 256) (hc : 0 ≤ c ∧ c < 256) (hd : 0 ≤ d ∧ d < 256) : beB (beV [a, b, c, d] 0) 4 = [a, b, c, d] := by
 simp only [beB, beV, List.cons.injEq, and_true]
 refine ⟨?_, ?_, ?_, ?_⟩ <;> omega
theorem be8 (a b c d e f g h : Int) (ha : 0 ≤ a ∧ a < 256) (hb : 0 ≤ b ∧ b < 256) (hc : 0 ≤ c ∧ c < 256) (hd : 0 ≤ d ∧ d < 256) (he : 0 ≤ e ∧ e < 256) (hf : 0 ≤ f ∧ f < 256) (hg : 0 ≤ g ∧ g < 256) (hh : 0 ≤ h ∧ h < 256) : beB (beV [a, b, c, d, e, f, g, h] 0) 8 = [a, b, c, d, e, f, g, h] := by
 simp only [beB, beV, List.cons.injEq, and_true]
 refine ⟨?_, ?_, ?_, ?_, ?_, ?_, ?_, ?_⟩ <;> omega
theorem be4' (n : Int) (h0 : 0 ≤ n) (h1 : n < 4294967296) : beV (beB n 4) 0 = n := by
 simp only [beB, beV]
 omega
theorem be8' (n : Int) (h0 : 0 ≤ n) (h1 : n < 18446744073709551616) : beV (beB n 8) 0 = n := by
 simp only [beB, beV]
 omega
theorem beB_bts (n : Int) (h : 0 ≤ n) : ∀ m, Bts (beB n m)
 | 0 => Bts.nil
 | m + 1 => Bts.cons (by omega) (beB_bts n h m)
theorem take4 {bs : List Int} (h : Bts bs) (hl : 4 ≤ bs.length) : beB (beV (bs.take 4) 0) 4 = bs.take 4 ∧ 0 ≤ beV (bs.take 4) 0 ∧ beV (bs.take 4) 0 < 4294967296 ∧ numR (bs.take 4) 0 = beV (bs.take 4) 0 := by
 have hb := h.take 4
 have h1 := beV_bound (bs.take 4) 0 0 hb (by decide) (by decide)
 have h2 := numR_eq (bs.take 4) 0 0 hb (by decide) (by decide) (by rw [List.length_take]; omega)
 have hlen : (bs.take 4).length = 4 := by rw [List.length_take]; omega
 rw [hlen] at h1
 refine ⟨?_, h1.1, h1.2, h2⟩
 rcases bs with _ | ⟨a, _ | ⟨b, _ | ⟨c, _ | ⟨d, bs⟩⟩⟩⟩
 all_goals first | (simp at hl; done) | skip
 exact be4 a b c d (hb a (by simp)) (hb b (by simp)) (hb c (by simp)) (hb d (by simp))
theorem take8 {bs : List Int} (h : Bts bs) (hl : 8 ≤ bs.length) : beB (beV (bs.take 8) 0) 8 = bs.take 8 ∧ 0 ≤ beV (bs.take 8) 0 ∧ beV (bs.take 8) 0 < 18446744073709551616 ∧ numR (bs.take 8) 0 = beV (bs.take 8) 0 := by
 have hb := h.take 8
 have h1 := beV_bound (bs.take 8) 0 0 hb (by decide) (by decide)
 have h2 := numR_eq (bs.take 8) 0 0 hb (by decide) (by decide) (by rw [List.length_take]; omega)
 have hlen : (bs.take 8).length = 8 := by rw [List.length_take]; omega
 rw [hlen] at h1
 refine ⟨?_, h1.1, h1.2, h2⟩
 rcases bs with _ | ⟨a, _ | ⟨b, _ | ⟨c, _ | ⟨d, _ | ⟨e, _ | ⟨f, _ | ⟨g, _ | ⟨i, bs⟩⟩⟩⟩⟩⟩⟩⟩
 all_goals first | (simp at hl; done) | (simp at hl; omega) | skip
 exact be8 a b c d e f g i (hb a (by simp)) (hb b (by simp)) (hb c (by simp)) (hb d (by simp)) (hb e (by simp)) (hb f (by simp)) (hb g (by simp)) (hb i (by simp))
theorem wrap64_in (x : Int) (h0 : -9223372036854775808 ≤ x) (h1 : x ≤ 9223372036854775807) : wrap64 x = x := by unfold wrap64; omega
theorem bytesOf_str {xs : List Int} (h : Bts xs) : bytesOf (strOfNums xs) = xs := by
 unfold bytesOf
 rw [strOfNums_data, List.map_map]
 apply List.ext_getElem
 ·simp
 ·intro i h1 h2
  have := h xs[i] (List.getElem_mem _)
  simp only [List.getElem_map, Function.comp]
  rw [UInt8.toNat_ofNat']
  omega
theorem strOfNums_bytesOf (s : ByteArray) : strOfNums (bytesOf s) = s := by
 unfold strOfNums bytesOf
 cases s with
 | mk d =>
  simp only [ByteArray.mk.injEq]
  apply Array.ext'
  simp only [List.map_map]
  apply List.ext_getElem
  ·simp
  ·intro i h1 h2
   simp
theorem bytesOf_bts (s : ByteArray) : Bts (bytesOf s) := fun x hx => by
 unfold bytesOf at hx
 obtain ⟨b, _, rfl⟩ := List.mem_map.1 hx
 have := b.toNat_lt
 omega
end Go.Proofs.YtlkaffbgekbcfaaDoor.Pure
end
section
namespace Go.Proofs.YtlkaffbgekbcfaaDoor.Pure
open Go.RowKit Go.Proofs.YtlkaffbgekbcfaaDoor.Pr Go.Proofs.YtlkaffbgekbcfaaDoorW.PrintWords Go.Proofs.YtlkaffbgekbcfaaDoorW.PrintLast Go.Proofs.YtlkaffbgekbcfaaDoorW.PrintMore
theorem lookC_of {n : Nat} (h : n ≤ 1048576) : lookC n = 0 := by unfold lookC; rw [if_neg (by omega)]
theorem foldR_suffix {f : List Int → Option (S26 × List Int × Int)} (hf : ∀ bs c rest e, f bs = some (c, rest, e) → ∃ pre, bs = pre ++ rest) : ∀ (n : Nat) (acc : List S26) (bs : List Int) (L : List S26) (rest : List Int) (e : Int), foldR f n acc bs = some (L, rest, e) → ∃ pre, bs = pre ++ rest
 | 0, acc, bs, L, rest, e, h => by simp only [foldR, Option.some.injEq, Prod.mk.injEq] at h; exact ⟨[], by simp [h.2.1]⟩
 | n + 1, acc, bs, L, rest, e, h => by
  simp only [foldR] at h
  obtain ⟨⟨x, r, e2⟩, h1, h2⟩ := Option.bind_eq_some_iff.mp h
  obtain ⟨p1, hp1⟩ := hf _ _ _ _ h1
  by_cases he : e2 = 0
  ·rw [if_pos he] at h2
   obtain ⟨p2, hp2⟩ := foldR_suffix hf n _ _ _ _ _ h2
   exact ⟨p1 ++ p2, by rw [hp1]; simp only at hp2; rw [hp2, List.append_assoc]⟩
  ·rw [if_neg he] at h2
   simp only [Option.some.injEq, Prod.mk.injEq] at h2
   exact ⟨p1, by rw [hp1, h2.2.1]⟩
theorem rdCell_suffix : ∀ (k deep : Nat) (bs : List Int) (c : S26) (rest : List Int) (e : Int), rdCell k deep bs = some (c, rest, e) → ∃ pre, bs = pre ++ rest
 | 0, deep, bs, c, rest, e, h => by simp [rdCell] at h
 | k + 1, deep, [], c, rest, e, h => by simp only [rdCell, Option.some.injEq, Prod.mk.injEq] at h; exact ⟨[], by simp [← h.2.1]⟩
 | k + 1, deep, b :: bs, c, rest, e, h => by
  simp only [rdCell] at h
  have hs : ∀ {x y : S26} {l r : List Int} {i j : Int}, some (x, l, i) = some (y, r, j) → (∃ pre, bs = pre ++ l) → ∃ pre, b :: bs = pre ++ r := by
   intro x y l r i j h1 ⟨pre, h2⟩
   simp only [Option.some.injEq, Prod.mk.injEq] at h1
   exact ⟨b :: pre, by rw [← h1.2.1, h2, List.cons_append]⟩
  have h0 : ∃ pre, bs = pre ++ bs := ⟨[], rfl⟩
  have h8 : ∃ pre, bs = pre ++ bs.drop 8 := ⟨bs.take 8, (List.take_append_drop 8 bs).symm⟩
  have hn : ∀ n, ∃ pre, bs = pre ++ (bs.drop 4).drop n := fun n => ⟨bs.take (4 + n), by rw [List.drop_drop, List.take_append_drop]⟩
  repeat' (first | split at h | (exact hs h h0) | (exact hs h h8) | (exact hs h (hn _)) | (cases h; done))
  obtain ⟨⟨L, r, e2⟩, h1, h2⟩ := Option.map_eq_some_iff.1 h
  obtain ⟨p, hp⟩ := foldR_suffix (fun bs c rest e => rdCell_suffix k (deep + 1) bs c rest e) _ _ _ _ _ _ h1
  exact hs (congrArg some h2) ⟨bs.take 4 ++ p, by rw [List.append_assoc, ← hp, List.take_append_drop]⟩
theorem Bts.suffix {bs pre rest : List Int} (h : Bts bs) (e : bs = pre ++ rest) : Bts rest := fun x hx => h x (by rw [e]; exact List.mem_append_right _ hx)
theorem foldR_some {f : List Int → Option (S26 × List Int × Int)} (hs : ∀ bs c rest e, f bs = some (c, rest, e) → ∃ pre, bs = pre ++ rest) (hf : ∀ bs, Bts bs → ∃ r, f bs = some r) : ∀ (n : Nat) (acc : List S26) (bs : List Int), Bts bs → ∃ r, foldR f n acc bs = some r
 | 0, acc, bs, hb => ⟨_, rfl⟩
 | n + 1, acc, bs, hb => by
  obtain ⟨⟨x, r, e2⟩, h1⟩ := hf bs hb
  obtain ⟨p1, hp1⟩ := hs _ _ _ _ h1
  simp only [foldR, h1, Option.bind_some]
  split
  ·exact foldR_some hs hf n _ _ (hb.suffix hp1)
  ·exact ⟨_, rfl⟩
theorem rdCell_some : ∀ (k deep : Nat) (bs : List Int), Bts bs → deep ≤ 64 → 65 ≤ k + deep → ∃ r, rdCell k deep bs = some r
 | 0, deep, bs, hb, h1, h2 => by omega
 | k + 1, deep, [], hb, h1, h2 => ⟨_, rfl⟩
 | k + 1, deep, b :: bs, hb, h1, h2 => by
  have ht := hb.tail
  simp only [rdCell]
  split
  ·split <;> exact ⟨_, rfl⟩
  ·split
   ·split
    ·exact ⟨_, rfl⟩
    ·rename_i h4
     have h5 := take4 ht (by omega)
     rw [if_pos (by rw [h5.2.2.2, wrap64_in _ (by omega) (by omega)]; exact h5.2.1)]
     split <;> exact ⟨_, rfl⟩
   ·split
    ·split
     ·exact ⟨_, rfl⟩
     ·rename_i h4
      split
      ·exact ⟨_, rfl⟩
      ·split
       ·exact ⟨_, rfl⟩
       ·obtain ⟨r, hr⟩ := foldR_some (fun bs c rest e => rdCell_suffix k (deep + 1) bs c rest e) (fun ys hy => rdCell_some k (deep + 1) ys hy (by omega) (by omega)) (wrap64 (numR (bs.take 4) 0)).toNat [] (bs.drop 4) (ht.drop 4)
        exact ⟨_, by rw [hr]; rfl⟩
    ·exact ⟨_, rfl⟩
theorem fold_back {f : List Int → Option (S26 × List Int × Int)} {g : S26 → List Int → Option (List Int × Int)} (hs : ∀ bs c rest e, f bs = some (c, rest, e) → ∃ pre, bs = pre ++ rest)
  (hf : ∀ bs c rest, Bts bs → bs.length ≤ 1048576 → f bs = some (c, rest, 0) → ∃ pre, bs = pre ++ rest ∧ ∀ xs : List Int, xs.length + pre.length ≤ 1048576 → g c xs = some (xs ++ pre, 0)) :
  ∀ (n : Nat) (acc : List S26) (bs : List Int) (L : List S26) (rest : List Int), Bts bs → bs.length ≤ 1048576 → foldR f n acc bs = some (L, rest, 0) →
   ∃ L' pre, L = acc ++ L' ∧ L'.length = n ∧ bs = pre ++ rest ∧ ∀ xs : List Int, xs.length + pre.length ≤ 1048576 → foldW g L' xs = some (xs ++ pre, 0)
 | 0, acc, bs, L, rest, hb, hl, h => by
  simp only [foldR, Option.some.injEq, Prod.mk.injEq] at h
  exact ⟨[], [], by simp [h.1], rfl, by simp [h.2.1], fun xs _ => by simp [foldW]⟩
 | n + 1, acc, bs, L, rest, hb, hl, h => by
  simp only [foldR] at h
  obtain ⟨⟨x, r, e2⟩, h1, h2⟩ := Option.bind_eq_some_iff.mp h
  by_cases he : e2 = 0
  ·subst he
   rw [if_pos rfl] at h2
   obtain ⟨p1, hp1, hw⟩ := hf _ _ _ hb hl h1
   obtain ⟨L', p2, hL, hn, hp2, hw2⟩ := fold_back hs hf n _ _ _ _ (hb.suffix hp1) (by rw [hp1, List.length_append] at hl; omega) h2
   refine ⟨x :: L', p1 ++ p2, by rw [hL]; simp, by simp [hn], by rw [hp1, hp2, List.append_assoc], fun xs hx => ?_⟩
   rw [List.length_append] at hx
   simp only [foldW]
   rw [hw xs (by omega)]
   simp only [Option.bind_some, if_true]
   rw [hw2 (xs ++ p1) (by rw [List.length_append]; omega), List.append_assoc]
  ·rw [if_neg he] at h2
   simp only [Option.some.injEq, Prod.mk.injEq] at h2
   exact absurd h2.2.2 he
theorem rd_back : ∀ (k deep : Nat) (bs : List Int) (c : S26) (rest : List Int), Bts bs → bs.length ≤ 1048576 → rdCell k deep bs = some (c, rest, 0) →
  ∃ pre, bs = pre ++ rest ∧ ∀ xs : List Int, xs.length + pre.length ≤ 1048576 → wrCell k c deep xs = some (xs ++ pre, 0)
 | 0, deep, bs, c, rest, hb, hl, h => by simp [rdCell] at h
 | k + 1, deep, [], c, rest, hb, hl, h => by simp [rdCell] at h
 | k + 1, deep, b :: bs, c, rest, hb, hl, h => by
  have ht := hb.tail
  have hh := hb.head
  have hw : wrap64 b = b := wrap64_in b (by omega) (by omega)
  rw [List.length_cons] at hl
  simp only [rdCell, hw] at h
  split at h
  ·rename_i h0
   subst h0
   split at h
   ·simp at h
   ·rename_i h8
    simp only [Option.some.injEq, Prod.mk.injEq, and_true] at h
    obtain ⟨rfl, rfl⟩ := h
    have h5 := take8 ht (by omega)
    refine ⟨0 :: bs.take 8, by rw [List.cons_append, List.take_append_drop], fun xs hx => ?_⟩
    have hlen : (bs.take 8).length = 8 := by rw [List.length_take]; omega
    rw [List.length_cons, hlen] at hx
    simp only [wrCell, if_true]
    rw [h5.2.2.2, h5.1, lookC_of (by omega)]
  ·split at h
   ·rename_i h1
    subst h1
    split at h
    ·simp at h
    ·rename_i h4
     have h5 := take4 ht (by omega)
     have hwn : wrap64 (numR (bs.take 4) 0) = beV (bs.take 4) 0 := by rw [h5.2.2.2, wrap64_in _ (by omega) (by omega)]
     rw [hwn, if_pos h5.2.1] at h
     split at h
     ·simp at h
     ·rename_i hn
      simp only [Option.some.injEq, Prod.mk.injEq, and_true] at h
      obtain ⟨rfl, rfl⟩ := h
      have hsz : (strOfNums ((bs.drop 4).take (beV (bs.take 4) 0).toNat)).size = (beV (bs.take 4) 0).toNat := by rw [strOfNums_size, List.length_take]; omega
      have hcast : (((beV (bs.take 4) 0).toNat : Nat) : Int) = beV (bs.take 4) 0 := by omega
      have hlen : (bs.take 4).length = 4 := by rw [List.length_take]; omega
      have hl2 : ((bs.drop 4).take (beV (bs.take 4) 0).toNat).length = (beV (bs.take 4) 0).toNat := by rw [List.length_take]; omega
      rw [List.length_drop] at hn
      refine ⟨1 :: (bs.take 4 ++ (bs.drop 4).take (beV (bs.take 4) 0).toNat), by rw [List.cons_append, List.append_assoc, List.take_append_drop, List.take_append_drop], fun xs hx => ?_⟩
      rw [List.length_cons, List.length_append, hlen, hl2] at hx
      simp only [wrCell, hsz]
      rw [if_neg (by omega), if_pos trivial, if_neg (by omega), lookC_of (by omega), if_pos rfl, bytesOf_str ((ht.drop 4).take _), lookC_of (by omega), hcast, h5.1]
      simp
   ·split at h
    ·rename_i h2
     subst h2
     split at h
     ·simp at h
     ·rename_i hd
      split at h
      ·simp at h
      ·rename_i h4
       have h5 := take4 ht (by omega)
       have hwn : wrap64 (numR (bs.take 4) 0) = beV (bs.take 4) 0 := by rw [h5.2.2.2, wrap64_in _ (by omega) (by omega)]
       rw [hwn] at h
       split at h
       ·simp at h
       ·rename_i hn
        rw [List.length_drop] at hn
        obtain ⟨⟨L, r, e2⟩, h6, h7⟩ := Option.map_eq_some_iff.1 h
        simp only [Prod.mk.injEq] at h7
        obtain ⟨rfl, rfl, rfl⟩ := h7
        obtain ⟨L', p, hL, hn2, hp, hw2⟩ := fold_back (fun bs c rest e => rdCell_suffix k (deep + 1) bs c rest e) (fun ys c rest hy hyl hr => rd_back k (deep + 1) ys c rest hy hyl hr) _ _ _ _ _ (ht.drop 4) (by rw [List.length_drop]; omega) h6
        simp only [List.nil_append] at hL
        subst hL
        have hlen : (bs.take 4).length = 4 := by rw [List.length_take]; omega
        have hcast : ((L.length : Nat) : Int) = beV (bs.take 4) 0 := by rw [hn2]; omega
        refine ⟨2 :: (bs.take 4 ++ p), by rw [List.cons_append, List.append_assoc, ← hp, List.take_append_drop], fun xs hx => ?_⟩
        rw [List.length_cons, List.length_append, hlen] at hx
        simp only [wrCell]
        rw [if_neg (by omega), if_neg (by omega), if_pos trivial, if_neg hd, if_neg (by omega), lookC_of (by omega), if_pos rfl, hcast, h5.1, hw2 _ (by simp only [List.length_append, List.length_cons, hlen]; omega)]
        simp
    ·simp at h
end Go.Proofs.YtlkaffbgekbcfaaDoor.Pure
end
section
namespace Go.Proofs.YtlkaffbgekbcfaaDoor.Pr
open Go.RowKit Go.Proofs.YtlkaffbgekbcfaaDoorW.PrintWords Go.Proofs.YtlkaffbgekbcfaaDoorW.PrintLast Go.Proofs.YtlkaffbgekbcfaaDoorW.PrintMore
set_option maxRecDepth 100000
def wfc : Nat → S26 → Prop
 | 0, _ => True
 | k + 1, c => (Lit.int .i64 c.f0).wf = true ∧ (Lit.int .u64 c.f1).wf = true ∧ c.f2.size ≤ maxLen ∧ c.f3.length ≤ maxLen ∧ ∀ x ∈ c.f3, wfc k x
def szc : Nat → S26 → Prop
 | 0, _ => True
 | k + 1, c => c.f2.size ≤ 140737488351232 ∧ ∀ x ∈ c.f3, szc k x
end Go.Proofs.YtlkaffbgekbcfaaDoor.Pr
end
section
namespace Go.Proofs.YtlkaffbgekbcfaaDoor.Pure
open Go.RowKit Go.Proofs.YtlkaffbgekbcfaaDoor.Pr Go.Proofs.YtlkaffbgekbcfaaDoorW.PrintWords Go.Proofs.YtlkaffbgekbcfaaDoorW.PrintLast Go.Proofs.YtlkaffbgekbcfaaDoorW.PrintMore
def nrm : Nat → S26 → S26
 | 0, c => c
 | k + 1, c => if c.f0 = 0 then ⟨0, c.f1, ⟨#[]⟩, []⟩ else if c.f0 = 1 then ⟨1, 0, c.f2, []⟩ else ⟨2, 0, ⟨#[]⟩, c.f3.map (nrm k)⟩
structure WR (rd : List Int → Option (S26 × List Int × Int)) (c : S26) (e : List Int) : Prop where
 bts : Bts e
 one : 1 ≤ e.length
 whole : ∀ rest, rd (e ++ rest) = some (c, rest, 0)
 front : ∀ n, n < e.length → ∃ z r, rd (e.take n) = some (z, r, 3)
theorem lookC_le {n : Nat} (h : lookC n = 0) : n ≤ 1048576 := by
 unfold lookC at h
 split at h
 ·cases h
 ·omega
theorem fold_read {f : List Int → Option (S26 × List Int × Int)} {g : S26 → List Int → Option (List Int × Int)} {nm : S26 → S26} {ok : S26 → Prop}
  (hf : ∀ x xs ys, ok x → g x xs = some (ys, 0) → ∃ e, ys = xs ++ e ∧ ys.length ≤ 1048576 ∧ WR f (nm x) e) :
  ∀ (L : List S26) (xs ys : List Int), (∀ x ∈ L, ok x) → xs.length ≤ 1048576 → foldW g L xs = some (ys, 0) →
   ∃ e, ys = xs ++ e ∧ ys.length ≤ 1048576 ∧ Bts e ∧ L.length ≤ e.length ∧ (∀ acc rest, foldR f L.length acc (e ++ rest) = some (acc ++ L.map nm, rest, 0)) ∧
    (∀ n, n < e.length → ∀ acc, ∃ z r, foldR f L.length acc (e.take n) = some (z, r, 3))
 | [], xs, ys, hok, hx, h => by
  simp only [foldW, Option.some.injEq, Prod.mk.injEq, and_true] at h
  subst h
  exact ⟨[], by simp, hx, Bts.nil, by simp, fun acc rest => by simp [foldR], fun n hn => by simp at hn⟩
 | x :: L, xs, ys, hok, hx, h => by
  simp only [foldW] at h
  obtain ⟨⟨zs, e1⟩, h1, h2⟩ := Option.bind_eq_some_iff.mp h
  by_cases he : e1 = 0
  ·subst he
   rw [if_pos rfl] at h2
   obtain ⟨ex, rfl, hl, hw⟩ := hf x xs zs (hok x (List.mem_cons_self ..)) h1
   obtain ⟨eL, hy, hyl, hb, hlen, hr, hfr⟩ := fold_read hf L _ ys (fun y hy => hok y (List.mem_cons_of_mem _ hy)) hl h2
   refine ⟨ex ++ eL, by rw [hy, List.append_assoc], hyl, hw.bts.append hb, ?_, fun acc rest => ?_, fun n hn acc => ?_⟩
   ·have := hw.one
    rw [List.length_append, List.length_cons]; omega
   ·rw [List.length_cons, List.append_assoc]
    simp only [foldR, hw.whole, Option.bind_some, if_true]
    rw [hr]
    simp
   ·rw [List.length_cons]
    rw [List.length_append] at hn
    by_cases hlt : n < ex.length
    ·obtain ⟨z, r, hz⟩ := hw.front n hlt
     rw [List.take_append_of_le_length (by omega)]
     simp only [foldR, hz, Option.bind_some]
     rw [if_neg (by decide)]
     exact ⟨_, _, rfl⟩
    ·rw [List.take_append, List.take_of_length_le (by omega)]
     simp only [foldR, hw.whole, Option.bind_some, if_true]
     exact hfr (n - ex.length) (by omega) _
  ·rw [if_neg he] at h2
   simp only [Option.some.injEq, Prod.mk.injEq] at h2
   exact absurd h2.2 he
theorem beB4 {n : Int} (h0 : 0 ≤ n) (h1 : n < 4294967296) (rest : List Int) : ((beB n 4 ++ rest).take 4 = beB n 4) ∧ ((beB n 4 ++ rest).drop 4 = rest) ∧ wrap64 (numR (beB n 4) 0) = n := by
 have hl := beB_length n 4
 refine ⟨by rw [List.take_append_of_le_length (by omega), List.take_of_length_le (by omega)], by rw [List.drop_append_of_le_length (by omega), List.drop_of_length_le (by omega), List.nil_append], ?_⟩
 have h := take4 (bs := beB n 4) (beB_bts n h0 4) (by omega)
 rw [List.take_of_length_le (by omega)] at h
 rw [h.2.2.2, be4' n h0 h1, wrap64_in _ (by omega) (by omega)]
theorem take_short {bs : List Int} {n m : Nat} (h : n < m) : (bs.take n).length < m := by rw [List.length_take]; omega
theorem wr_read : ∀ (k : Nat) (c : S26) (deep : Nat) (xs ys : List Int), (∀ j, wfc j c) → wrCell k c deep xs = some (ys, 0) → ∃ e, ys = xs ++ e ∧ ys.length ≤ 1048576 ∧ WR (fun bs => rdCell k deep bs) (nrm k c) e
 | 0, c, deep, xs, ys, hw, h => by simp [wrCell] at h
 | k + 1, c, deep, xs, ys, hw, h => by
  have hw1 := hw 1
  simp only [wfc] at hw1
  obtain ⟨hf0, hf1, hf2, hf3, _⟩ := hw1
  have hf1' : 0 ≤ c.f1 ∧ c.f1 < 18446744073709551616 := by
   simp [Lit.wf, IntKind.min, IntKind.max, IntKind.signed, IntKind.bits] at hf1
   omega
  clear hf0 hf1
  have nil3 : ∃ z r, rdCell (k + 1) deep [] = some (z, r, 3) := ⟨_, _, by rw [rdCell]⟩
  simp only [wrCell] at h
  by_cases h0 : c.f0 = 0
  ·rw [if_pos h0] at h
   simp only [Option.some.injEq, Prod.mk.injEq] at h
   obtain ⟨rfl, hl⟩ := h
   have hl' := lookC_le hl
   have hb8 := beB_length c.f1 8
   have ht := take8 (bs := beB c.f1 8) (beB_bts c.f1 hf1'.1 8) (by omega)
   rw [List.take_of_length_le (by omega)] at ht
   refine ⟨_, rfl, by rw [List.length_append, List.length_cons, hb8]; omega, Bts.cons (by omega) (beB_bts _ hf1'.1 _), by simp, fun rest => ?_, fun n hn => ?_⟩
   ·have e1 : (beB c.f1 8 ++ rest).take 8 = beB c.f1 8 := by rw [List.take_append_of_le_length (by omega), List.take_of_length_le (by omega)]
    have e2 : (beB c.f1 8 ++ rest).drop 8 = rest := by rw [List.drop_append_of_le_length (by omega), List.drop_of_length_le (by omega), List.nil_append]
    have e3 : ¬ (beB c.f1 8 ++ rest).length < 8 := by rw [List.length_append]; omega
    show rdCell (k + 1) deep (0 :: (beB c.f1 8 ++ rest)) = _
    rw [rdCell, wrap64_in 0 (by omega) (by omega), if_pos rfl, if_neg e3, e1, e2, ht.2.2.2, be8' _ hf1'.1 hf1'.2, nrm, if_pos h0]
   ·rw [List.length_cons, hb8] at hn
    cases n with
    | zero => exact nil3
    | succ n =>
     show ∃ z r, rdCell (k + 1) deep (0 :: (beB c.f1 8).take n) = some (z, r, 3)
     rw [rdCell, wrap64_in 0 (by omega) (by omega), if_pos rfl, if_pos (take_short (by omega))]
     exact ⟨_, _, rfl⟩
  ·rw [if_neg h0] at h
   by_cases h1 : c.f0 = 1
   ·rw [if_pos h1] at h
    by_cases hs : 1048576 < c.f2.size
    ·rw [if_pos hs] at h; simp at h
    ·rw [if_neg hs] at h
     by_cases hl5 : lookC (xs.length + 5) = 0
     ·rw [if_pos hl5] at h
      simp only [Option.some.injEq, Prod.mk.injEq] at h
      obtain ⟨rfl, hl⟩ := h
      have hl' := lookC_le hl
      have hb4 := beB_length c.f2.size 4
      have hbs : (bytesOf c.f2).length = c.f2.size := bytesOf_length c.f2
      have hB := beB4 (n := (c.f2.size : Int)) (by omega) (by omega)
      have hbt : Bts (beB (c.f2.size : Int) 4) := beB_bts _ (by omega) 4
      refine ⟨1 :: (beB c.f2.size 4 ++ bytesOf c.f2), by simp, by simp only [List.length_append, List.length_cons, hb4, hbs]; omega, Bts.cons (by omega) (hbt.append (bytesOf_bts _)), by simp, fun rest => ?_, fun n hn => ?_⟩
      ·show rdCell (k + 1) deep (1 :: (beB c.f2.size 4 ++ bytesOf c.f2 ++ rest)) = _
       have hB' := Aside0.mk (hB (bytesOf c.f2 ++ rest))
       rw [rdCell, wrap64_in 1 (by omega) (by omega), if_neg (by decide), if_pos rfl, List.append_assoc, if_neg (by rw [List.length_append]; omega), hB'.out.1, hB'.out.2.1, hB'.out.2.2, if_pos (by omega), if_neg (by rw [List.length_append]; omega), Int.toNat_natCast,
        List.take_append_of_le_length (by omega), List.take_of_length_le (by omega), List.drop_append_of_le_length (by omega), List.drop_of_length_le (by omega), List.nil_append, strOfNums_bytesOf, nrm, if_neg h0, if_pos h1]
      ·rw [List.length_cons, List.length_append, hb4, hbs] at hn
       cases n with
       | zero => exact nil3
       | succ n =>
        show ∃ z r, rdCell (k + 1) deep (1 :: (beB c.f2.size 4 ++ bytesOf c.f2).take n) = some (z, r, 3)
        rw [rdCell, wrap64_in 1 (by omega) (by omega), if_neg (by decide), if_pos rfl]
        by_cases hn4 : n < 4
        ·rw [if_pos (take_short hn4)]; exact ⟨_, _, rfl⟩
        ·rw [List.take_append, List.take_of_length_le (by omega)]
         have hB' := Aside0.mk (hB ((bytesOf c.f2).take (n - (beB c.f2.size 4).length)))
         rw [if_neg (by rw [List.length_append]; omega), hB'.out.1, hB'.out.2.1, hB'.out.2.2, if_pos (by omega), if_pos (by rw [List.length_take]; omega)]
         exact ⟨_, _, rfl⟩
     ·rw [if_neg hl5] at h; simp at h
   ·rw [if_neg h1] at h
    by_cases h2 : c.f0 = 2
    ·rw [if_pos h2] at h
     by_cases hd : 64 < deep + 1
     ·rw [if_pos hd] at h; simp at h
     ·rw [if_neg hd] at h
      by_cases hs : 1048576 < c.f3.length
      ·rw [if_pos hs] at h; simp at h
      ·rw [if_neg hs] at h
       by_cases hl5 : lookC (xs.length + 5) = 0
       ·rw [if_pos hl5] at h
        have hl5' := lookC_le hl5
        have hb4 := beB_length c.f3.length 4
        have hbt : Bts (beB (c.f3.length : Int) 4) := beB_bts _ (by omega) 4
        obtain ⟨e, rfl, hyl, hbe, hle, hr, hfr⟩ := fold_read (f := fun bs => rdCell k (deep + 1) bs) (nm := nrm k) (ok := fun x => ∀ j, wfc j x)
         (fun x xs ys hx hg => wr_read k x (deep + 1) xs ys hx hg) c.f3 _ ys (fun x hx j => (hw (j + 1)).2.2.2.2 x hx) (by simp only [List.length_append, List.length_cons, hb4]; omega) h
        have hB := beB4 (n := (c.f3.length : Int)) (by omega) (by omega)
        refine ⟨2 :: (beB c.f3.length 4 ++ e), by simp, hyl, Bts.cons (by omega) (hbt.append hbe), by simp, fun rest => ?_, fun n hn => ?_⟩
        ·show rdCell (k + 1) deep (2 :: (beB c.f3.length 4 ++ e ++ rest)) = _
         have hB' := Aside0.mk (hB (e ++ rest))
         rw [rdCell, wrap64_in 2 (by omega) (by omega), if_neg (by decide), if_neg (by decide), if_pos rfl, if_neg hd, List.append_assoc, if_neg (by rw [List.length_append]; omega), hB'.out.1, hB'.out.2.1, hB'.out.2.2, if_neg (by rw [List.length_append]; omega), Int.toNat_natCast, hr, nrm, if_neg h0, if_neg h1]
         simp
        ·rw [List.length_cons, List.length_append, hb4] at hn
         cases n with
         | zero => exact nil3
         | succ n =>
          show ∃ z r, rdCell (k + 1) deep (2 :: (beB c.f3.length 4 ++ e).take n) = some (z, r, 3)
          rw [rdCell, wrap64_in 2 (by omega) (by omega), if_neg (by decide), if_neg (by decide), if_pos rfl, if_neg hd]
          by_cases hn4 : n < 4
          ·rw [if_pos (take_short hn4)]; exact ⟨_, _, rfl⟩
          ·rw [List.take_append, List.take_of_length_le (by omega)]
           have hB' := Aside0.mk (hB (e.take (n - (beB c.f3.length 4).length)))
           rw [if_neg (by rw [List.length_append]; omega), hB'.out.1, hB'.out.2.1, hB'.out.2.2]
           split
           ·exact ⟨_, _, rfl⟩
           ·rw [Int.toNat_natCast]
            obtain ⟨z, r, hz⟩ := hfr (n - (beB c.f3.length 4).length) (by omega) []
            rw [hz]
            exact ⟨_, _, rfl⟩
       ·rw [if_neg hl5] at h; simp at h
    ·rw [if_neg h2] at h; simp at h
end Go.Proofs.YtlkaffbgekbcfaaDoor.Pure
end
section
namespace Go.Proofs.YtlkaffbgekbcfaaDoor.Pure
open Go.RowKit Go.Proofs.YtlkaffbgekbcfaaDoor.Pr Go.Proofs.YtlkaffbgekbcfaaDoorW.PrintWords Go.Proofs.YtlkaffbgekbcfaaDoorW.PrintLast Go.Proofs.YtlkaffbgekbcfaaDoorW.PrintMore
def dep : Nat → S26 → Bool
 | 0, _ => false
 | k + 1, c => c.f3.all (dep k)
theorem dep_mono : ∀ (k : Nat) (c : S26), dep k c = true → dep (k + 1) c = true
 | 0, c, h => by simp [dep] at h
 | k + 1, c, h => by
  rw [dep] at h ⊢
  simp only [List.all_eq_true] at h ⊢
  exact fun x hx => dep_mono k x (h x hx)
theorem dep_le {k j : Nat} {c : S26} (h : dep k c = true) (hkj : k ≤ j) : dep j c = true := by
 obtain ⟨d, rfl⟩ := Nat.exists_eq_add_of_le hkj
 clear hkj
 induction d with
 | zero => exact h
 | succ d ih => exact dep_mono _ _ ih
theorem allC_refl {k : Nat} {f : S26 → S26 → Option Bool} (hf : ∀ x, dep k x = true → f x x = some true) : ∀ (L : List S26), L.all (dep k) = true → allC f L L = some true
 | [], h => rfl
 | x :: L, h => by
  rw [List.all_cons, Bool.and_eq_true] at h
  simp only [allC, hf x h.1, Option.bind_some, if_true]
  exact allC_refl hf L h.2
theorem sameC_refl : ∀ (k : Nat) (a : S26), dep k a = true → sameC k a a = some true
 | 0, a, h => by simp [dep] at h
 | k + 1, a, h => by
  rw [dep] at h
  simp only [sameC, if_true, allC_refl (fun x hx => sameC_refl k x hx) a.f3 h, beq_self_eq_true, ite_self]
theorem same_loop (K : Nat) (a b : S26) (hla : a.f3.length ≤ 9223372036854775807) (hlen : a.f3.length = b.f3.length)
  (ih : ∀ (x y : S26) (r : Bool), x ∈ a.f3 → y ∈ b.f3 → sameC K x y = some r → Ev (fun k => minstrelref07_Same.f k x.f0 x.f1 x.f2 x.f3 y.f0 y.f1 y.f2 y.f3) r) :
  ∀ (m n : Nat) (r : Bool), n + m = a.f3.length → allC (sameC K) (a.f3.drop n) (b.f3.drop n) = some r → Ev (fun k => minstrelref07_Same.l0 k (n : Int) a.f0 a.f1 a.f2 a.f3 b.f0 b.f1 b.f2 b.f3) r
 | 0, n, r, hn, h => by
  rw [List.drop_eq_nil_of_le (by omega)] at h
  simp only [allC, Option.some.injEq] at h
  subst h
  refine Ev.step (f := fun k => some true) (fun k => ?_) (Ev.now _)
  rw [minstrelref07_Same.l0, if_neg (by omega)]
 | m + 1, n, r, hn, h => by
  have hna : n < a.f3.length := by omega
  have hnb : n < b.f3.length := by omega
  rw [List.drop_eq_getElem_cons hna, List.drop_eq_getElem_cons hnb] at h
  simp only [allC] at h
  obtain ⟨r1, h1, h2⟩ := Option.bind_eq_some_iff.mp h
  have hx : rd_T26 a.f3 (n : Int) = a.f3[n] := rd_at _ n hna
  have hy : rd_T26 b.f3 (n : Int) = b.f3[n] := rd_at _ n hnb
  refine Ev.step (f := fun k => (minstrelref07_Same.f k (a.f3[n].f0) (a.f3[n].f1) (a.f3[n].f2) (a.f3[n].f3) (b.f3[n].f0) (b.f3[n].f1) (b.f3[n].f2) (b.f3[n].f3)).bind fun t134 => (if t134 = true then (minstrelref07_Same.l0 k ((n + 1 : Nat) : Int) a.f0 a.f1 a.f2 a.f3 b.f0 b.f1 b.f2 b.f3) else (some false))) (fun k => ?_) (Ev.bind (ih _ _ r1 (List.getElem_mem _) (List.getElem_mem _) h1) ?_)
  ·rw [minstrelref07_Same.l0, if_pos (by omega), if_pos (by omega), if_pos (by omega), hx, hy, wrap64_in _ (by omega) (by omega)]
   rfl
  ·cases r1 with
   | true =>
    rw [if_pos rfl] at h2
    simp only [if_true]
    exact same_loop K a b hla hlen ih m (n + 1) r (by omega) h2
   | false =>
    rw [if_neg (by decide)] at h2
    obtain rfl := Option.some.inj h2
    simp only [Bool.false_eq_true, if_false]
    exact Ev.now _
def len : Nat → S26 → Prop
 | 0, _ => True
 | k + 1, c => c.f3.length ≤ 9223372036854775807 ∧ ∀ x ∈ c.f3, len k x
theorem same_eq : ∀ (K : Nat) (a b : S26) (r : Bool), len K a → sameC K a b = some r → Ev (fun k => minstrelref07_Same.f k a.f0 a.f1 a.f2 a.f3 b.f0 b.f1 b.f2 b.f3) r
 | 0, a, b, r, hl, h => by simp [sameC] at h
 | K + 1, a, b, r, hl, h => by
  simp only [sameC] at h
  by_cases h0 : a.f0 = b.f0
  ·rw [if_pos h0] at h
   by_cases h1 : a.f0 = 0
   ·rw [if_pos h1] at h
    obtain rfl := Option.some.inj h
    refine Ev.step (f := fun k => some (a.f1 == b.f1)) (fun k => ?_) (Ev.now _)
    rw [minstrelref07_Same.f, if_pos h0, if_pos h1]
   ·rw [if_neg h1] at h
    by_cases h2 : a.f0 = 1
    ·rw [if_pos h2] at h
     obtain rfl := Option.some.inj h
     refine Ev.step (f := fun k => some (a.f2.toList == b.f2.toList)) (fun k => ?_) (Ev.now _)
     rw [minstrelref07_Same.f, if_pos h0, if_neg h1, if_pos h2]
    ·rw [if_neg h2] at h
     by_cases h3 : a.f0 = 2
     ·rw [if_pos h3] at h
      by_cases h4 : a.f3.length = b.f3.length
      ·rw [if_pos h4] at h
       refine Ev.step (f := fun k => minstrelref07_Same.l0 k 0 a.f0 a.f1 a.f2 a.f3 b.f0 b.f1 b.f2 b.f3) (fun k => ?_) (same_loop K a b hl.1 h4 (fun x y r hx hy hr => same_eq K x y r (hl.2 x hx) hr) a.f3.length 0 r (by omega) h)
       rw [minstrelref07_Same.f, if_pos h0, if_neg h1, if_neg h2, if_pos h3, if_pos (by omega)]
      ·rw [if_neg h4] at h
       obtain rfl := Option.some.inj h
       refine Ev.step (f := fun k => some false) (fun k => ?_) (Ev.now _)
       rw [minstrelref07_Same.f, if_pos h0, if_neg h1, if_neg h2, if_pos h3, if_neg (by omega)]
     ·rw [if_neg h3] at h
      obtain rfl := Option.some.inj h
      refine Ev.step (f := fun k => some true) (fun k => ?_) (Ev.now _)
      rw [minstrelref07_Same.f, if_pos h0, if_neg h1, if_neg h2, if_neg h3]
  ·rw [if_neg h0] at h
   obtain rfl := Option.some.inj h
   refine Ev.step (f := fun k => some false) (fun k => ?_) (Ev.now _)
   rw [minstrelref07_Same.f, if_neg h0]
end Go.Proofs.YtlkaffbgekbcfaaDoor.Pure
end
section
namespace Go.Proofs.YtlkaffbgekbcfaaDoor.Pure
open Go.RowKit Go.Proofs.YtlkaffbgekbcfaaDoor.Pr Go.Proofs.YtlkaffbgekbcfaaDoorW.PrintWords Go.Proofs.YtlkaffbgekbcfaaDoorW.PrintLast Go.Proofs.YtlkaffbgekbcfaaDoorW.PrintMore
def lenB : Nat → S26 → Prop
 | 0, _ => True
 | k + 1, c => c.f3.length ≤ 3000 ∧ ∀ x ∈ c.f3, lenB k x
theorem eta26 (c : S26) : (⟨c.f0, c.f1, c.f2, c.f3⟩ : S26) = c := by cases c; rfl
theorem foldW_some {g : S26 → List Int → Option (List Int × Int)} : ∀ (L : List S26) (xs : List Int), (∀ x ∈ L, ∀ xs, ∃ r, g x xs = some r) → ∃ r, foldW g L xs = some r
 | [], xs, h => ⟨_, rfl⟩
 | x :: L, xs, h => by
  obtain ⟨r, hr⟩ := h x (List.mem_cons_self ..) xs
  simp only [foldW, hr, Option.bind_some]
  split
  ·exact foldW_some L _ (fun y hy => h y (List.mem_cons_of_mem _ hy))
  ·exact ⟨_, rfl⟩
theorem wrCell_some : ∀ (K : Nat) (c : S26) (deep : Nat) (xs : List Int), dep K c = true → ∃ r, wrCell K c deep xs = some r
 | 0, c, deep, xs, h => by simp [dep] at h
 | K + 1, c, deep, xs, h => by
  rw [dep] at h
  simp only [List.all_eq_true] at h
  simp only [wrCell]
  repeat' (first | split | exact ⟨_, rfl⟩)
  exact foldW_some _ _ (fun x hx ys => wrCell_some K x (deep + 1) ys (h x hx))
end Go.Proofs.YtlkaffbgekbcfaaDoor.Pure
end
section
namespace Go.Proofs.YtlkaffbgekbcfaaDoor.Pure
open Go.RowKit Go.Proofs.YtlkaffbgekbcfaaDoor.Pr Go.Proofs.YtlkaffbgekbcfaaDoorW.PrintWords Go.Proofs.YtlkaffbgekbcfaaDoorW.PrintLast Go.Proofs.YtlkaffbgekbcfaaDoorW.PrintMore
theorem byte_at (n : Int) (h0 : 0 ≤ n) (h1 : n < 18446744073709551616) (j : Nat) (hj : j ≤ 7) : (Go.bits .and .u64 (shr .u64 n (IntKind.u64.wrap (wrap64 (8 * (j : Int))))) 255) % 256 = n / 2 ^ (8 * j) % 256 := by
 rw [wrap64_in _ (by omega) (by omega), IntWalk.u64_in _ (by omega)]
 unfold shr
 rw [show (8 * (j : Int)).toNat = 8 * j by omega, show IntKind.u64.bits = 64 from rfl, Nat.min_eq_left (by omega)]
 obtain ⟨a, rfl⟩ := Int.eq_ofNat_of_zero_le h0
 have hq : ((a : Nat) : Int) / 2 ^ (8 * j) = ((a / 2 ^ (8 * j) : Nat) : Int) := by simp
 rw [hq]
 have hlt : a / 2 ^ (8 * j) < 18446744073709551616 := Nat.lt_of_le_of_lt (Nat.div_le_self _ _) (by omega)
 have h := bits_and_u64_nat (a / 2 ^ (8 * j)) 255 hlt (by omega)
 have e : (a / 2 ^ (8 * j)) &&& 255 = a / 2 ^ (8 * j) % 256 := Nat.and_two_pow_sub_one_eq_mod _ 8
 rw [e] at h
 rw [show ((255 : Int)) = ((255 : Nat) : Int) from rfl, h]
 omega
theorem bytes_loop (n : Int) (h0 : 0 ≤ n) (h1 : n < 18446744073709551616) : ∀ (j : Nat) (xs : List Int), j ≤ 8 → xs.length + j ≤ 8 → Ev (fun k => minstrelref07_bytes.l0 k n xs ((j : Int) - 1)) (xs ++ beB n j)
 | 0, xs, hj, hl => by
  refine Ev.step (f := fun k => some xs) (fun k => ?_) (by rw [beB, List.append_nil]; exact Ev.now _)
  rw [minstrelref07_bytes.l0, if_neg (by omega)]
 | j + 1, xs, hj, hl => by
  have e1 : ((j + 1 : Nat) : Int) - 1 = (j : Int) := by omega
  have hb := byte_at n h0 h1 j (by omega)
  have e2 : 0 ≤ IntKind.u64.wrap (wrap64 (8 * (j : Int))) := by rw [wrap64_in _ (by omega) (by omega), IntWalk.u64_in _ (by omega)]; omega
  have e3 : wrap64 ((j : Int) - 1) = (j : Int) - 1 := wrap64_in _ (by omega) (by omega)
  have A := Aside0.mk (And.intro hb (And.intro e2 e3))
  clear hb e2 e3
  rw [e1, beB]
  have := bytes_loop n h0 h1 j (xs ++ [n / 2 ^ (8 * j) % 256]) (by omega) (by rw [List.length_append, List.length_singleton]; omega)
  rw [List.append_assoc] at this
  refine Ev.step (fun k => ?_) this
  rw [minstrelref07_bytes.l0, if_pos (by omega), if_pos A.out.2.1, if_pos (by omega), A.out.1, A.out.2.2]
theorem bytes_ev (n : Int) (h0 : 0 ≤ n) (h1 : n < 18446744073709551616) (m : Nat) (hm : m ≤ 8) : Ev (fun k => minstrelref07_bytes.f k n m) (beB n m) := by
 have := bytes_loop n h0 h1 m [] hm (by simpa using hm)
 refine Ev.congr (fun k => ?_) this
 rw [minstrelref07_bytes.f, wrap64_in _ (by omega) (by omega)]
def put2 (r : List Int × Int) : List Int × Int := if r.2 = 0 then (r.1, 0) else ([], r.2)
theorem put_tail (c : S26) (deep : Int) (h2 : ¬ c.f0 = 2) (ys : List Int) : Ev (fun k => minstrelref07_put.j3 k ys deep c.f0 c.f1 c.f2 c.f3) (put2 (ys, lookC ys.length)) := by
 have hl0 : ys.length ≤ 1048576 → Ev (fun k => minstrelref07_put.l0 k ys deep 0 c.f0 c.f1 c.f2 c.f3) (ys, 0) := fun hy => by
  refine Ev.step (f := fun k => minstrelref07_put.j6 k ys deep 0 false c.f0 c.f1 c.f2 c.f3) (fun k => by rw [minstrelref07_put.l0, if_neg h2]) ?_
  refine Ev.step (f := fun k => some (ys, 0)) (fun k => ?_) (Ev.now _)
  rw [minstrelref07_put.j6, if_neg (by decide)]
 refine Ev.step (f := fun k => minstrelref07_put.j4 k ys deep c.f0 c.f1 c.f2 c.f3) (fun k => by rw [minstrelref07_put.j3, if_neg h2]) ?_
 by_cases hy : 1048576 < ys.length
 ·have e : put2 (ys, lookC ys.length) = ([], 2) := by unfold put2 lookC; rw [if_pos hy]; rfl
  rw [e]
  refine Ev.step (f := fun k => some ([], 2)) (fun k => ?_) (Ev.now _)
  rw [minstrelref07_put.j4, if_pos (by omega)]
 ·have e : put2 (ys, lookC ys.length) = (ys, 0) := by unfold put2 lookC; rw [if_neg hy]; rfl
  rw [e]
  refine Ev.step (fun k => ?_) (hl0 (by omega))
  rw [minstrelref07_put.j4, if_neg (by omega)]
theorem put_loop (K : Nat) (c : S26) (deep : Nat) (h2 : c.f0 = 2) (hlen : c.f3.length ≤ 1048576) (hd : deep + 1 ≤ 64)
  (ih : ∀ x ∈ c.f3, ∀ (xs : List Int) (r : List Int × Int), xs.length ≤ 1048576 → wrCell K x (deep + 1) xs = some r → Ev (fun k => minstrelref07_put.f k xs x.f0 x.f1 x.f2 x.f3 ((deep + 1 : Nat) : Int)) (put2 r)) :
  ∀ (m n : Nat) (zs : List Int) (r : List Int × Int), n + m = c.f3.length → zs.length ≤ 1048576 → foldW (fun x ys => wrCell K x (deep + 1) ys) (c.f3.drop n) zs = some r → Ev (fun k => minstrelref07_put.l0 k zs (deep : Int) (n : Int) c.f0 c.f1 c.f2 c.f3) (put2 r)
 | 0, n, zs, r, hn, hz, h => by
  rw [List.drop_eq_nil_of_le (by omega)] at h
  simp only [foldW, Option.some.injEq] at h
  subst h
  refine Ev.step (f := fun k => minstrelref07_put.j6 k zs (deep : Int) (n : Int) false c.f0 c.f1 c.f2 c.f3) (fun k => ?_) ?_
  ·rw [minstrelref07_put.l0, if_pos h2, decide_eq_false (by omega)]
  refine Ev.step (f := fun k => some (zs, 0)) (fun k => ?_) (Ev.now _)
  rw [minstrelref07_put.j6, if_neg (by decide)]
 | m + 1, n, zs, r, hn, hz, h => by
  have hna : n < c.f3.length := by omega
  have hrd : rd_T26 c.f3 (n : Int) = c.f3[n] := rd_at _ n hna
  rw [List.drop_eq_getElem_cons hna] at h
  simp only [foldW] at h
  obtain ⟨r1, hr1, h⟩ := Option.bind_eq_some_iff.mp h
  have hE := ih _ (List.getElem_mem hna) zs r1 hz hr1
  have e1 : wrap64 ((deep : Int) + 1) = ((deep + 1 : Nat) : Int) := wrap64_in _ (by omega) (by omega)
  have e2 : wrap64 ((n : Int) + 1) = ((n + 1 : Nat) : Int) := wrap64_in _ (by omega) (by omega)
  have A := Aside0.mk (And.intro e1 e2)
  clear e1 e2
  refine Ev.step (f := fun k => minstrelref07_put.j6 k zs (deep : Int) (n : Int) true c.f0 c.f1 c.f2 c.f3) (fun k => ?_) ?_
  ·rw [minstrelref07_put.l0, if_pos h2, decide_eq_true (by omega)]
  refine Ev.step (f := fun k => (minstrelref07_put.f k zs c.f3[n].f0 c.f3[n].f1 c.f3[n].f2 c.f3[n].f3 ((deep + 1 : Nat) : Int)).bind fun bt => if bt.2 = 0 then minstrelref07_put.l0 k bt.1 (deep : Int) ((n + 1 : Nat) : Int) c.f0 c.f1 c.f2 c.f3 else some ([], bt.2)) (fun k => ?_) (Ev.bind hE ?_)
  ·rw [minstrelref07_put.j6, if_pos rfl, if_pos (by omega), if_pos (by omega), hrd, A.out.1, A.out.2]
  ·obtain ⟨zs1, e1⟩ := r1
   by_cases he : e1 = 0
   ·subst he
    simp only [if_true] at h
    have hl1 : zs1.length ≤ 1048576 := wrCell_len _ _ _ _ _ hr1
    simp only [put2, if_true]
    exact put_loop K c deep h2 hlen hd ih m (n + 1) zs1 r (by omega) hl1 h
   ·simp only [if_neg he, Option.some.injEq] at h
    subst h
    simp only [put2, if_neg he]
    exact Ev.now _
theorem put_ev (K : Nat) : ∀ (c : S26) (deep : Nat) (xs : List Int) (r : List Int × Int), (∀ j, wfc j c) → (∀ j, szc j c) → deep ≤ 64 → xs.length ≤ 1048576 → wrCell K c deep xs = some r → Ev (fun k => minstrelref07_put.f k xs c.f0 c.f1 c.f2 c.f3 (deep : Int)) (put2 r) := by
 induction K with
 | zero =>
  intro c deep xs r hw hz hd hx h
  simp [wrCell] at h
 | succ K put_ev =>
  intro c deep xs r hw hz hd hx h
  have hw1 := hw 1
  simp only [wfc] at hw1
  obtain ⟨_, hf1, _, hf3, _⟩ := hw1
  have hf1' : 0 ≤ c.f1 ∧ c.f1 < 18446744073709551616 := by
   simp [Lit.wf, IntKind.min, IntKind.max, IntKind.signed, IntKind.bits] at hf1
   omega
  clear hf1
  have hf2 : c.f2.size ≤ 140737488351232 := (hz 1).1
  have start : ∀ v, 0 ≤ c.f0 → c.f0 ≤ 2 → Ev (fun k => minstrelref07_put.j0 k xs (deep : Int) false c.f0 c.f1 c.f2 c.f3) v → Ev (fun k => minstrelref07_put.f k xs c.f0 c.f1 c.f2 c.f3 (deep : Int)) v := fun v h0 h1 hv =>
   Ev.step (fun k => by rw [minstrelref07_put.f, if_neg (by omega), decide_eq_false (by omega)]) hv
  have start2 : ∀ v, 0 ≤ c.f0 → c.f0 < 2 → Ev (fun k => minstrelref07_put.j1 k xs (deep : Int) false c.f0 c.f1 c.f2 c.f3) v → Ev (fun k => minstrelref07_put.f k xs c.f0 c.f1 c.f2 c.f3 (deep : Int)) v := fun v h0 h1 hv =>
   start v h0 (by omega) (Ev.step (fun k => by rw [minstrelref07_put.j0, if_neg (by decide), if_neg (by omega)]) hv)
  have bad : c.f0 < 0 ∨ c.f0 > 2 → Ev (fun k => minstrelref07_put.f k xs c.f0 c.f1 c.f2 c.f3 (deep : Int)) ([], 1) := fun hb => by
   have ht : Ev (fun k => minstrelref07_put.j0 k xs (deep : Int) true c.f0 c.f1 c.f2 c.f3) ([], 1) := Ev.step (f := fun k => some ([], 1)) (fun k => by rw [minstrelref07_put.j0, if_pos rfl]) (Ev.now _)
   by_cases h0 : c.f0 < 0
   ·exact Ev.step (fun k => by rw [minstrelref07_put.f, if_pos h0]) ht
   ·exact Ev.step (fun k => by rw [minstrelref07_put.f, if_neg h0, decide_eq_true (by omega)]) ht
  simp only [wrCell] at h
  by_cases h0 : c.f0 = 0
  ·rw [if_pos h0, Option.some.injEq] at h
   subst h
   have hb8 := beB_length c.f1 8
   refine start2 _ (by omega) (by omega) ?_
   have e0 : xs ++ [c.f0 % 256] ++ beB c.f1 8 = xs ++ (0 :: beB c.f1 8) := by rw [h0]; simp
   have ht := put_tail c deep (by omega) (xs ++ (0 :: beB c.f1 8))
   rw [show (xs ++ (0 :: beB c.f1 8)).length = xs.length + 9 by rw [List.length_append, List.length_cons, hb8]] at ht
   refine Ev.step (f := fun k => (minstrelref07_bytes.f k c.f1 8).bind fun t174 => (if (xs ++ [c.f0 % 256]).length + t174.length < 140737488355328 then (minstrelref07_put.j2 k (xs ++ [c.f0 % 256] ++ t174) (deep : Int) c.f0 c.f1 c.f2 c.f3) else none)) (fun k => ?_) (Ev.bind (bytes_ev c.f1 hf1'.1 hf1'.2 8 (by omega)) ?_)
   ·rw [minstrelref07_put.j1, if_neg (by decide), if_pos (by omega)]
    simp only [Option.bind_some, if_pos h0]
   ·simp only [if_pos (show (xs ++ [c.f0 % 256]).length + (beB c.f1 8).length < 140737488355328 by rw [List.length_append, List.length_singleton]; omega), e0]
    exact Ev.step (fun k => by rw [minstrelref07_put.j2, if_neg (by omega)]) ht
  ·rw [if_neg h0] at h
   by_cases h1 : c.f0 = 1
   ·rw [if_pos h1] at h
    have hb4 := beB_length c.f2.size 4
    refine start2 _ (by omega) (by omega) ?_
    have e0 : xs ++ [c.f0 % 256] ++ beB c.f2.size 4 = xs ++ (1 :: beB c.f2.size 4) := by rw [h1]; simp
    have el : (xs ++ (1 :: beB c.f2.size 4)).length = xs.length + 5 := by rw [List.length_append, List.length_cons, hb4]
    have EW : Aside0 (IntKind.u64.wrap (c.f2.size : Int) = (c.f2.size : Int)) := ⟨IntWalk.u64_in _ (by omega)⟩
    have hstep : ∀ v, Ev (fun k => (if (wrap64 (((xs ++ (1 :: beB c.f2.size 4)).length : Int) + (c.f2.size : Int))) > 1048576 then (some (([] : List Int), 2)) else (if (xs ++ (1 :: beB c.f2.size 4)).length + c.f2.size < 140737488355328 then (minstrelref07_put.j3 k (xs ++ (1 :: beB c.f2.size 4) ++ bytesOf c.f2) (deep : Int) c.f0 c.f1 c.f2 c.f3) else (none)))) v → Ev (fun k => minstrelref07_put.j1 k xs (deep : Int) false c.f0 c.f1 c.f2 c.f3) v := fun v hv => by
     refine Ev.step (f := fun k => minstrelref07_put.j2 k (xs ++ [c.f0 % 256]) (deep : Int) c.f0 c.f1 c.f2 c.f3) (fun k => ?_) ?_
     ·rw [minstrelref07_put.j1, if_neg (by decide), if_pos (by omega)]
      simp only [Option.bind_some, if_neg h0]
     ·have hlt : (xs ++ [c.f0 % 256]).length + (beB c.f2.size 4).length < 140737488355328 := by rw [List.length_append, List.length_singleton]; omega
      refine Ev.step (f := fun k => (minstrelref07_bytes.f k (c.f2.size : Int) 4).bind fun t180 => (if (xs ++ [c.f0 % 256]).length + t180.length < 140737488355328 then ((some (xs ++ [c.f0 % 256] ++ t180 : List Int)).bind fun y183 => (if (wrap64 ((y183.length : Int) + (c.f2.size : Int))) > 1048576 then (some (([] : List Int), 2)) else (if y183.length + c.f2.size < 140737488355328 then (minstrelref07_put.j3 k (y183 ++ bytesOf c.f2) (deep : Int) c.f0 c.f1 c.f2 c.f3) else (none)))) else (none))) (fun k => ?_) (Ev.bind (bytes_ev (c.f2.size : Int) (by omega) (by omega) 4 (by omega)) ?_)
      ·rw [minstrelref07_put.j2, if_pos h1, EW.out]
      ·refine Ev.congr (fun k => ?_) hv
       rw [if_pos hlt, e0, Option.bind_some]
    have A : Aside0 (wrap64 (((xs ++ (1 :: beB c.f2.size 4)).length : Int) + (c.f2.size : Int)) = ((xs.length + 5 + c.f2.size : Nat) : Int)) := ⟨by
     rw [el, wrap64_in _ (by omega) (by omega)]
     omega⟩
    refine hstep _ ?_
    simp only [A.out]
    by_cases hbig : 1048576 < xs.length + 5 + c.f2.size
    ·have hr : put2 r = ([], 2) := by
      by_cases hs : 1048576 < c.f2.size
      ·rw [if_pos hs] at h; obtain rfl := Option.some.inj h; rfl
      ·rw [if_neg hs] at h
       by_cases h5 : lookC (xs.length + 5) = 0
       ·rw [if_pos h5, Option.some.injEq] at h
        subst h
        unfold put2 lookC
        rw [if_pos hbig]
        rfl
       ·rw [if_neg h5] at h; obtain rfl := Option.some.inj h; rfl
     rw [hr]
     refine Ev.congr (fun k => ?_) (Ev.now _)
     rw [if_pos (by omega)]
    ·rw [if_neg (by omega), lookC_of (by omega), if_pos rfl, Option.some.injEq] at h
     subst h
     have ht := put_tail c deep (by omega) (xs ++ (1 :: beB c.f2.size 4) ++ bytesOf c.f2)
     rw [show (xs ++ (1 :: beB c.f2.size 4) ++ bytesOf c.f2).length = xs.length + 5 + c.f2.size by rw [List.length_append, el, bytesOf_length]] at ht
     refine Ev.congr (fun k => ?_) ht
     rw [if_neg (by omega), if_pos (by omega)]
   ·rw [if_neg h1] at h
    by_cases h2 : c.f0 = 2
    ·rw [if_pos h2] at h
     refine start _ (by omega) (by omega) ?_
     by_cases hdd : 64 < deep + 1
     ·rw [if_pos hdd] at h
      obtain rfl := Option.some.inj h
      refine Ev.step (f := fun k => minstrelref07_put.j1 k xs (deep : Int) true c.f0 c.f1 c.f2 c.f3) (fun k => ?_) ?_
      ·rw [minstrelref07_put.j0, if_neg (by decide), if_pos h2, decide_eq_true (by omega)]
      ·exact Ev.step (f := fun k => some ([], 2)) (fun k => by rw [minstrelref07_put.j1, if_pos rfl]) (Ev.now _)
     ·rw [if_neg hdd] at h
      have hlm : c.f3.length ≤ 9223372036854775807 := by simpa only [maxLen] using hf3
      have hb4 := beB_length c.f3.length 4
      have el : (xs ++ (2 :: beB c.f3.length 4)).length = xs.length + 5 := by rw [List.length_append, List.length_cons, hb4]
      have e0 : xs ++ [c.f0 % 256] ++ beB c.f3.length 4 = xs ++ (2 :: beB c.f3.length 4) := by rw [h2]; simp
      have A : Aside0 (IntKind.u64.wrap (c.f3.length : Int) = (c.f3.length : Int)) := ⟨IntWalk.u64_in _ (by omega)⟩
      refine Ev.step (f := fun k => minstrelref07_put.j1 k xs (deep : Int) false c.f0 c.f1 c.f2 c.f3) (fun k => ?_) ?_
      ·rw [minstrelref07_put.j0, if_neg (by decide), if_pos h2, decide_eq_false (by omega)]
      refine Ev.step (f := fun k => minstrelref07_put.j2 k (xs ++ [c.f0 % 256]) (deep : Int) c.f0 c.f1 c.f2 c.f3) (fun k => ?_) ?_
      ·rw [minstrelref07_put.j1, if_neg (by decide), if_pos (by omega)]
       simp only [Option.bind_some, if_neg h0]
      refine Ev.step (f := fun k => minstrelref07_put.j3 k (xs ++ [c.f0 % 256]) (deep : Int) c.f0 c.f1 c.f2 c.f3) (fun k => by rw [minstrelref07_put.j2, if_neg h1]) ?_
      refine Ev.step (f := fun k => (minstrelref07_bytes.f k (c.f3.length : Int) 4).bind fun t189 => (if (xs ++ [c.f0 % 256]).length + t189.length < 140737488355328 then (if (c.f3.length : Int) > 1048576 then (some (([] : List Int), 2)) else (minstrelref07_put.j4 k (xs ++ [c.f0 % 256] ++ t189) (deep : Int) c.f0 c.f1 c.f2 c.f3)) else (none))) (fun k => by rw [minstrelref07_put.j3, if_pos h2, A.out]) (Ev.bind (bytes_ev (c.f3.length : Int) (by omega) (by omega) 4 (by omega)) ?_)
      have hlt : (xs ++ [c.f0 % 256]).length + (beB c.f3.length 4).length < 140737488355328 := by rw [List.length_append, List.length_singleton]; omega
      simp only [if_pos hlt, e0]
      by_cases hs : 1048576 < c.f3.length
      ·rw [if_pos hs] at h
       obtain rfl := Option.some.inj h
       refine Ev.congr (fun k => ?_) (Ev.now _)
       rw [if_pos (by omega)]
       rfl
      ·rw [if_neg hs] at h
       refine Ev.congr (f := fun k => minstrelref07_put.j4 k (xs ++ (2 :: beB c.f3.length 4)) (deep : Int) c.f0 c.f1 c.f2 c.f3) (fun k => by rw [if_neg (by omega)]) ?_
       by_cases h5 : 1048576 < xs.length + 5
       ·have hlk : ¬ lookC (xs.length + 5) = 0 := by unfold lookC; rw [if_pos h5]; decide
        rw [if_neg hlk] at h
        obtain rfl := Option.some.inj h
        exact Ev.step (f := fun k => some ([], 2)) (fun k => by rw [minstrelref07_put.j4, if_pos (by omega)]) (Ev.now _)
       ·rw [lookC_of (by omega), if_pos rfl] at h
        refine Ev.step (f := fun k => minstrelref07_put.l0 k (xs ++ (2 :: beB c.f3.length 4)) (deep : Int) ((0 : Nat) : Int) c.f0 c.f1 c.f2 c.f3) (fun k => by rw [minstrelref07_put.j4, if_neg (by omega)]; rfl) ?_
        exact put_loop K c deep h2 (by omega) (by omega) (fun x hxm ys r hy hr => put_ev x (deep + 1) ys r (fun j => (hw (j + 1)).2.2.2.2 x hxm) (fun j => (hz (j + 1)).2 x hxm) (by omega) hy hr) c.f3.length 0 _ r (by omega) (by omega) (by rw [List.drop_zero]; exact h)
    ·rw [if_neg h2] at h
     obtain rfl := Option.some.inj h
     exact bad (by omega)
end Go.Proofs.YtlkaffbgekbcfaaDoor.Pure
end
section
namespace Go.Proofs.YtlkaffbgekbcfaaDoor.Pure
open Go.RowKit Go.Proofs.YtlkaffbgekbcfaaDoor.Pr Go.Proofs.YtlkaffbgekbcfaaDoorW.PrintWords Go.Proofs.YtlkaffbgekbcfaaDoorW.PrintLast Go.Proofs.YtlkaffbgekbcfaaDoorW.PrintMore
theorem toList_inj {a b : ByteArray} (h : a.toList = b.toList) : a = b := by
 rw [Go.ByteArray.toList_eq, Go.ByteArray.toList_eq] at h
 exact Go.WideShapes.bytes_inj h
theorem strOfNums_inj {xs ys : List Int} (hx : Bts xs) (hy : Bts ys) (h : strOfNums xs = strOfNums ys) : xs = ys := by
 rw [← bytesOf_str hx, ← bytesOf_str hy, h]
def okc : Nat → S26 → Prop
 | 0, _ => False
 | k + 1, c => c.f0 = 0 ∨ c.f0 = 1 ∨ (c.f0 = 2 ∧ ∀ x ∈ c.f3, okc k x)
theorem len_of_wfc : ∀ (k : Nat) (c : S26), wfc k c → len k c
 | 0, c, h => trivial
 | k + 1, c, h => ⟨by have := h.2.2.2.1; simpa only [maxLen] using this, fun x hx => len_of_wfc k x (h.2.2.2.2 x hx)⟩
end Go.Proofs.YtlkaffbgekbcfaaDoor.Pure
end
section
namespace Go.Proofs.YtlkaffbgekbcfaaDoor.Pure
open Go.RowKit Go.Proofs.YtlkaffbgekbcfaaDoor.Pr Go.Proofs.YtlkaffbgekbcfaaDoorW.PrintWords Go.Proofs.YtlkaffbgekbcfaaDoorW.PrintLast Go.Proofs.YtlkaffbgekbcfaaDoorW.PrintMore
theorem refEnc_ev {K : Nat} {c : S26} {r : List Int × Int} (hw : ∀ j, wfc j c) (hz : ∀ j, szc j c) (h : wrCell K c 0 [] = some r) : Ev (fun k => minstrelref07_Encode.f k c.f0 c.f1 c.f2 c.f3) (put2 r) := by
 have := put_ev K c 0 [] r hw hz (by omega) (by simp) h
 refine Ev.congr (f := fun k => (minstrelref07_put.f k ([] : List Int) c.f0 c.f1 c.f2 c.f3 ((0 : Nat) : Int)).bind fun bt201 => (some (bt201.1, bt201.2))) (fun k => by unfold minstrelref07_Encode.f; rfl) (Ev.bind this (Ev.now _))
end Go.Proofs.YtlkaffbgekbcfaaDoor.Pure
end
section
namespace Go.Proofs.YtlkaffbgekbcfaaDoor.Pure
open Go.RowKit Go.Proofs.YtlkaffbgekbcfaaDoor.Pr Go.Proofs.YtlkaffbgekbcfaaDoorW.PrintWords Go.Proofs.YtlkaffbgekbcfaaDoorW.PrintLast Go.Proofs.YtlkaffbgekbcfaaDoorW.PrintMore Go.Proofs.YtlkaffbgekbcfaaDoor.Crc
theorem or4 (a b c d : Nat) (ha : a < 256) (hb : b < 256) (hc : c < 256) (hd : d < 256) : ((a * 16777216 ||| b * 65536) ||| c * 256) ||| d = ((a * 256 + b) * 256 + c) * 256 + d := by
 rw [nat_join 24 (a * 16777216) (b * 65536) (by omega) (by omega), nat_join 16 (a * 16777216 + b * 65536) (c * 256) (by omega) (by omega), nat_join 8 _ d (by omega) (by omega)]
 omega
theorem number_eq (l : List Int) (h : Bytes l) (hl : 4 ≤ l.length) : frame_number.f l = some (num4 l) := by
 have y0 := getD_byte h (show 0 < l.length by omega)
 have y1 := getD_byte h (show 1 < l.length by omega)
 have y2 := getD_byte h (show 2 < l.length by omega)
 have y3 := getD_byte h (show 3 < l.length by omega)
 obtain ⟨a, ha⟩ := Int.eq_ofNat_of_zero_le y0.1
 obtain ⟨b, hb⟩ := Int.eq_ofNat_of_zero_le y1.1
 obtain ⟨c, hc⟩ := Int.eq_ofNat_of_zero_le y2.1
 obtain ⟨d, hd⟩ := Int.eq_ofNat_of_zero_le y3.1
 have r0 : rd l 0 = (a : Int) := ha
 have r1 : rd l 1 = (b : Int) := hb
 have r2 : rd l 2 = (c : Int) := hc
 have r3 : rd l 3 = (d : Int) := hd
 unfold frame_number.f num4
 rw [if_pos (by omega), if_pos (by omega), if_pos (by omega), if_pos (by omega), r0, r1, r2, r3, ha, hb, hc, hd]
 rw [show ((((a : Int) % 4294967296) * 16777216) % 4294967296) = ((a * 16777216 : Nat) : Int) by omega, show ((((b : Int) % 4294967296) * 65536) % 4294967296) = ((b * 65536 : Nat) : Int) by omega, show ((((c : Int) % 4294967296) * 256) % 4294967296) = ((c * 256 : Nat) : Int) by omega, show ((d : Int) % 4294967296) = ((d : Nat) : Int) by omega]
 have h1 : a * 16777216 ||| b * 65536 < 2 ^ 32 := Nat.or_lt_two_pow (by omega) (by omega)
 have h2 : (a * 16777216 ||| b * 65536) ||| c * 256 < 2 ^ 32 := Nat.or_lt_two_pow h1 (by omega)
 rw [u32_or_nat _ _ (by omega) (by omega), u32_or_nat _ _ h1 (by omega), u32_or_nat _ _ h2 (by omega), or4 a b c d (by omega) (by omega) (by omega) (by omega)]
 congr 1
theorem num4_range {l : List Int} (h : Bytes l) (hl : 4 ≤ l.length) : 0 ≤ num4 l ∧ num4 l ≤ 4294967295 := by
 have y0 := getD_byte h (show 0 < l.length by omega)
 have y1 := getD_byte h (show 1 < l.length by omega)
 have y2 := getD_byte h (show 2 < l.length by omega)
 have y3 := getD_byte h (show 3 < l.length by omega)
 unfold num4
 omega
theorem four_num (a b c d : Int) (ha : 0 ≤ a ∧ a ≤ 255) (hb : 0 ≤ b ∧ b ≤ 255) (hc : 0 ≤ c ∧ c ≤ 255) (hd : 0 ≤ d ∧ d ≤ 255) : fourL (((a * 256 + b) * 256 + c) * 256 + d) = [a, b, c, d] := by
 unfold fourL
 simp only [List.cons.injEq, and_true]
 refine ⟨?_, ?_, ?_, ?_⟩ <;> omega
theorem num_four (s : Int) (h0 : 0 ≤ s) (h1 : s < 4294967296) : num4 (fourL s) = s := by
 unfold num4 fourL
 show (((s / 16777216 % 256) * 256 + (s / 65536 % 256)) * 256 + (s / 256 % 256)) * 256 + (s % 256) = s
 omega
theorem take4_four {l : List Int} (h : Bytes l) (hl : 4 ≤ l.length) : l.take 4 = fourL (num4 l) := by
 obtain ⟨a, b, c, d, m, rfl⟩ : ∃ a b c d m, l = a :: b :: c :: d :: m := by
  match l, hl with
  | a :: b :: c :: d :: m, _ => exact ⟨a, b, c, d, m, rfl⟩
 have ha := h a (by simp)
 have hb := h b (by simp)
 have hc := h c (by simp)
 have hd := h d (by simp)
 show [a, b, c, d] = fourL (((a * 256 + b) * 256 + c) * 256 + d)
 exact (four_num a b c d ha hb hc hd).symm
theorem sumL_range (l : List Int) (h : Bytes l) : 0 ≤ sumL l ∧ sumL l < 4294967296 := by
 have := sumN_lt (nat_lt h)
 unfold sumL
 omega
theorem frame_test (l : List Int) (h : Bytes l) (n : Nat) (hn : num4 l = (n : Int)) (hl : 8 + n ≤ l.length) :
  (sumL (l.take 4 ++ (l.take (8 + n)).drop 8) = num4 (l.drop 4)) ↔ frameL ((l.take (8 + n)).drop 8) = l.take (8 + n) := by
 have hp : (((l.take (8 + n)).drop 8).length : Int) = (n : Int) := by simp; omega
 have e4 : l.take 4 = fourL (n : Int) := by rw [take4_four h (by omega), hn]
 have b4 : Bytes (l.drop 4) := fun x hx => h x (List.mem_of_mem_drop hx)
 have e8 : (l.drop 4).take 4 = fourL (num4 (l.drop 4)) := take4_four b4 (by simp; omega)
 have et : l.take (8 + n) = fourL (n : Int) ++ (fourL (num4 (l.drop 4)) ++ (l.take (8 + n)).drop 8) := by
  have h1 : l.take (8 + n) = (l.take (8 + n)).take 8 ++ (l.take (8 + n)).drop 8 := (List.take_append_drop 8 _).symm
  have h2 : (l.take (8 + n)).take 8 = l.take 4 ++ (l.drop 4).take 4 := by
   rw [List.take_take, Nat.min_eq_left (by omega), show 8 = 4 + 4 from rfl, List.take_add]
  rw [h2, e4, e8, List.append_assoc] at h1
  exact h1
 have bp : Bytes ((l.take (8 + n)).drop 8) := fun x hx => h x (List.mem_of_mem_take (List.mem_of_mem_drop hx))
 have rs := sumL_range (l.take 4 ++ (l.take (8 + n)).drop 8) (bytes_app (fun x hx => h x (List.mem_of_mem_take hx)) bp)
 have rn := num4_range b4 (by simp; omega)
 unfold frameL
 rw [hp]
 constructor
 ·intro e
  rw [e4] at e
  rw [e]
  exact et.symm
 ·intro e
  have e' := List.append_cancel_left (e.trans et)
  have e'' : fourL (sumL (fourL (n : Int) ++ (l.take (8 + n)).drop 8)) = fourL (num4 (l.drop 4)) := List.append_inj_left e' (by rfl)
  rw [e4] at rs ⊢
  have := congrArg num4 e''
  rwa [num_four _ rs.1 rs.2, num_four _ rn.1 (by omega)] at this
theorem first_eq (l : List Int) (h : Bytes l) : ∃ r, frame_first.f l = some r ∧ minstrelref06_First.f l = some r ∧ (r.2.2 = 0 → 8 ≤ r.2.1 ∧ r.2.1 ≤ l.length ∧ ∀ x ∈ r.1, 0 ≤ x ∧ x ≤ 255) := by
 unfold frame_first.f minstrelref06_First.f
 rw [if_pos (bytesB_iff.2 h)]
 by_cases c1 : (l.length : Int) < 8
 ·rw [if_pos c1, if_pos c1]
  exact ⟨_, rfl, rfl, fun e => by simp at e⟩
 ·rw [if_neg c1, if_neg c1, number_eq l h (by omega)]
  simp only [Option.bind_some]
  have hr := num4_range h (by omega)
  by_cases c2 : num4 l > 1048576
  ·rw [if_pos c2, if_pos c2]
   exact ⟨_, rfl, rfl, fun e => by simp at e⟩
  ·rw [if_neg c2, if_neg c2]
   by_cases c3 : num4 l > (l.length : Int) - 8
   ·rw [if_pos c3, if_pos (by omega)]
    exact ⟨_, rfl, rfl, fun e => by simp at e⟩
   ·rw [if_neg c3, if_neg (by omega)]
    obtain ⟨n, hn⟩ := Int.eq_ofNat_of_zero_le hr.1
    have hn8 : (8 + num4 l).toNat = 8 + n := by omega
    have bp : Bytes ((l.take (8 + n)).drop 8) := fun x hx => h x (List.mem_of_mem_take (List.mem_of_mem_drop hx))
    rw [hn8, sum_eq _ (by simpa using bytes_app (fun x hx => h x (List.mem_of_mem_take hx)) bp), number_eq _ (fun x hx => h x (List.mem_of_mem_drop hx)) (by simp; omega)]
    simp only [Option.bind_some]
    have ht := frame_test l h n hn (by omega)
    have hs : ((sumN (nat [l.take 4, (l.take (8 + n)).drop 8].flatten) : Nat) : Int) = sumL (l.take 4 ++ (l.take (8 + n)).drop 8) := by simp [sumL]
    rw [hs]
    by_cases c4 : sumL (l.take 4 ++ (l.take (8 + n)).drop 8) = num4 (l.drop 4)
    ·rw [if_pos c4, if_pos (ht.1 c4)]
     exact ⟨_, rfl, rfl, fun _ => ⟨by show 8 ≤ 8 + num4 l; omega, by show 8 + num4 l ≤ _; omega, bp⟩⟩
    ·rw [if_neg c4, if_neg (fun e => c4 (ht.2 e))]
     exact ⟨_, rfl, rfl, fun e => by simp at e⟩
theorem bytes_dropped {l : List Int} (h : Bytes l) (n : Nat) : Bytes (l.drop n) := fun x hx => h x (List.mem_of_mem_drop hx)
end Go.Proofs.YtlkaffbgekbcfaaDoor.Pure
end
section
namespace Go.Proofs.YtlkaffbgekbcfaaDoor.Pure
open Go.RowKit Go.Proofs.YtlkaffbgekbcfaaDoor.Pr Go.Proofs.YtlkaffbgekbcfaaDoorW.PrintWords Go.Proofs.YtlkaffbgekbcfaaDoorW.PrintLast Go.Proofs.YtlkaffbgekbcfaaDoorW.PrintMore Go.Proofs.YtlkaffbgekbcfaaDoor.Crc
theorem frameL_length (l : List Int) : (frameL l).length = 8 + l.length := by
 unfold frameL
 have h4 : ∀ a, (fourL a).length = 4 := fun a => rfl
 simp only [List.length_append, h4]
 omega
theorem First_back (l m : List Int) (h : Bytes l) (hm : Bytes m) (hl : l.length ≤ 1048576) : frame_First.f (frameL l ++ m) = some (l, ((frameL l).length : Int), 0) := by
 have hb : Bytes (frameL l ++ m) := bytes_app (bytes_frame h) hm
 have hlen := frameL_length l
 have hn : num4 (frameL l ++ m) = (l.length : Int) := by
  have : num4 (fourL (l.length : Int) ++ ((fourL (sumL (fourL (l.length : Int) ++ l)) ++ l) ++ m)) = num4 (fourL (l.length : Int)) := rfl
  unfold frameL
  rw [List.append_assoc, this]
  exact num_four _ (by omega) (by omega)
 have ht : (frameL l ++ m).take (8 + l.length) = frameL l := by rw [List.take_append_of_le_length (by omega), List.take_of_length_le (by omega)]
 have hd : (frameL l).drop 8 = l := by
  unfold frameL
  rw [← List.append_assoc, List.drop_append_of_le_length (by simp [fourL]), List.drop_of_length_le (by simp [fourL]), List.nil_append]
 obtain ⟨r, e1, e2, _⟩ := first_eq _ hb
 have e3 : minstrelref06_First.f (frameL l ++ m) = some (l, ((frameL l).length : Int), 0) := by
  unfold minstrelref06_First.f
  have h8 : (8 + num4 (frameL l ++ m)).toNat = 8 + l.length := by rw [hn]; omega
  rw [if_pos (bytesB_iff.2 hb), if_neg (by simp only [List.length_append]; omega), if_neg (by rw [hn]; omega), if_neg (by rw [hn]; simp only [List.length_append]; omega), h8, ht, hd, if_pos rfl, hn, hlen]
  simp
 unfold frame_First.f
 rw [e1, ← e2, e3]
 rfl
end Go.Proofs.YtlkaffbgekbcfaaDoor.Pure
end
section
namespace Go.Proofs.YtlkaffbgekbcfaaDoor.Pure
open Go.RowKit Go.Proofs.YtlkaffbgekbcfaaDoor.Pr Go.Proofs.YtlkaffbgekbcfaaDoorW.PrintWords Go.Proofs.YtlkaffbgekbcfaaDoorW.PrintLast Go.Proofs.YtlkaffbgekbcfaaDoorW.PrintMore
def canL : Int → List Int → Bool
 | _, [] => true
 | last, n :: r => if n ≤ last then false else if n > 64 then false else canL n r
def memB (l : List Int) : Bool := canL 0 l && decide ((l.length : Int) > 0)
theorem canL_len : ∀ (l : List Int) (last : Int), canL last l = true → 0 ≤ last → (l = [] ∨ last + l.length ≤ 64) ∧ ∀ x ∈ l, 0 < x ∧ x ≤ 64
 | [], last, h, h0 => ⟨.inl rfl, fun x hx => by cases hx⟩
 | n :: r, last, h, h0 => by
  rw [canL] at h
  by_cases h1 : n ≤ last
  ·simp [h1] at h
  ·rw [if_neg h1] at h
   by_cases h2 : n > 64
   ·simp [h2] at h
   ·rw [if_neg h2] at h
    obtain ⟨ha, hb⟩ := canL_len r n h (by omega)
    refine ⟨.inr ?_, fun x hx => ?_⟩
    ·rcases ha with rfl | ha
     ·simp; omega
     ·simp only [List.length_cons]; omega
    ·rcases List.mem_cons.1 hx with rfl | hx
     ·exact ⟨by omega, by omega⟩
     ·exact hb x hx
theorem memB_facts {l : List Int} (h : memB l = true) : 0 < l.length ∧ l.length ≤ 64 ∧ ∀ x ∈ l, 0 < x ∧ x ≤ 64 := by
 simp only [memB, Bool.and_eq_true, decide_eq_true_eq] at h
 obtain ⟨ha, hb⟩ := canL_len l 0 h.1 (by omega)
 refine ⟨by omega, ?_, hb⟩
 rcases ha with rfl | ha
 ·simp
 ·omega
theorem can_loop (l : List Int) (hl : l.length ≤ 9223372036854775807) : ∀ (m : Nat) (i last : Int), 0 ≤ i → i + m = l.length → Ev (fun k => snap_can.l0 k l last l (l.length : Int) i) (canL last (l.drop i.toNat) && decide ((l.length : Int) > 0))
 | 0, i, last, h0, hm => by
  have hd : l.drop i.toNat = [] := List.drop_eq_nil_of_le (by omega)
  rw [hd, canL, Bool.true_and]
  refine Ev.step (f := fun k => some (decide ((l.length : Int) > 0))) (fun k => ?_) (Ev.now _)
  rw [snap_can.l0, if_neg (by omega)]
 | m + 1, i, last, h0, hm => by
  have e1 := Aside0.mk (wrap64_in (i + 1) (by omega) (by omega))
  rw [drop_rdI l i h0 (by omega), canL]
  generalize hn : rd l i = n
  by_cases h1 : n ≤ last
  ·rw [if_pos h1]
   refine Ev.step (f := fun k => some false) (fun k => ?_) (Ev.now _)
   rw [snap_can.l0, if_pos (by omega), if_pos h0, if_pos (by omega), hn, if_pos h1]
  ·rw [if_neg h1]
   by_cases h2 : n > 64
   ·rw [if_pos h2]
    refine Ev.step (f := fun k => some false) (fun k => ?_) (Ev.now _)
    rw [snap_can.l0, if_pos (by omega), if_pos h0, if_pos (by omega), hn, if_neg h1, if_pos h2]
   ·rw [if_neg h2]
    refine Ev.step (f := fun k => snap_can.l0 k l n l (l.length : Int) (i + 1)) (fun k => ?_) (can_loop l hl m (i + 1) n (by omega) (by omega))
    rw [snap_can.l0, if_pos (by omega), if_pos h0, if_pos (by omega), hn, if_neg h1, if_neg h2, e1.out]
theorem can_ev (l : List Int) (hl : l.length ≤ 9223372036854775807) : Ev (fun k => snap_can.f k l) (memB l) := by
 have := can_loop l hl l.length 0 0 (by omega) (by omega)
 exact Ev.congr (fun k => by unfold snap_can.f; rfl) this
theorem refM_loop (l : List Int) (hl : l.length ≤ 9223372036854775807) : ∀ (m : Nat) (i : Int), 0 ≤ i → i + m = l.length → (0 < i → 1 ≤ rd l (i - 1)) → Ev (fun k => minstrelref19_Members.l0 k l i) (canL (if i = 0 then 0 else rd l (i - 1)) (l.drop i.toNat) && decide ((l.length : Int) > 0))
 | 0, i, h0, hm, hp => by
  have hd : l.drop i.toNat = [] := List.drop_eq_nil_of_le (by omega)
  rw [hd, canL, Bool.true_and]
  refine Ev.step (f := fun k => some (decide ((l.length : Int) > 0))) (fun k => ?_) (Ev.now _)
  rw [minstrelref19_Members.l0, if_neg (by omega)]
 | m + 1, i, h0, hm, hp => by
  have e1 := Aside0.mk (wrap64_in (i + 1) (by omega) (by omega))
  have hnext : ∀ n, rd l i = n → 1 ≤ n → Ev (fun k => minstrelref19_Members.l0 k l (i + 1)) (canL n (l.drop (i + 1).toNat) && decide ((l.length : Int) > 0)) := fun n hn h1 => by
   have := refM_loop l hl m (i + 1) (by omega) (by omega) (fun _ => by rw [show i + 1 - 1 = i by omega, hn]; exact h1)
   rw [if_neg (by omega), show i + 1 - 1 = i by omega, hn] at this
   exact this
  rw [drop_rdI l i h0 (by omega), canL]
  generalize hn : rd l i = n at hnext
  have hlast : 0 ≤ (if i = 0 then 0 else rd l (i - 1)) := by
   split
   ·omega
   ·have := hp (by omega); omega
  by_cases h1 : n < 1
  ·rw [if_pos (by omega)]
   refine Ev.step (f := fun k => some false) (fun k => ?_) (Ev.now _)
   rw [minstrelref19_Members.l0, if_pos (by omega), if_pos h0, hn, if_pos h1]
  ·by_cases h2 : n > 64
   ·have hx : (if n ≤ (if i = 0 then 0 else rd l (i - 1)) then false else if n > 64 then false else canL n (l.drop (i + 1).toNat)) = false := by simp [h2]
    rw [hx]
    refine Ev.step (f := fun k => some false) (fun k => ?_) (Ev.now _)
    rw [minstrelref19_Members.l0, if_pos (by omega), if_pos h0, hn, if_neg h1, if_pos h2]
   ·by_cases h3 : i = 0
    ·rw [if_pos h3, if_neg (by omega), if_neg h2]
     refine Ev.step (fun k => ?_) (hnext n rfl (by omega))
     rw [minstrelref19_Members.l0, if_pos (by omega), if_pos h0, hn, if_neg h1, if_neg h2, if_neg (by omega), e1.out]
    ·have e2 := Aside0.mk (wrap64_in (i - 1) (by omega) (by omega))
     rw [if_neg h3]
     by_cases h4 : n ≤ rd l (i - 1)
     ·rw [if_pos h4]
      refine Ev.step (f := fun k => some false) (fun k => ?_) (Ev.now _)
      rw [minstrelref19_Members.l0, if_pos (by omega), if_pos h0, hn, if_neg h1, if_neg h2, if_pos (by omega), e2.out, if_pos (by omega), if_pos (by omega), if_pos h4]
     ·rw [if_neg h4, if_neg h2]
      refine Ev.step (fun k => ?_) (hnext n rfl (by omega))
      rw [minstrelref19_Members.l0, if_pos (by omega), if_pos h0, hn, if_neg h1, if_neg h2, if_pos (by omega), e2.out, if_pos (by omega), if_pos (by omega), if_neg h4, e1.out]
theorem refMembers_ev (l : List Int) (hl : l.length ≤ 9223372036854775807) : Ev (fun k => minstrelref19_Members.f k l) (memB l) := by
 have := refM_loop l hl l.length 0 (by omega) (by omega) (by omega)
 exact Ev.congr (fun k => by unfold minstrelref19_Members.f; rfl) this
def numC (n : Int) : S26 := ⟨0, n, ⟨#[]⟩, []⟩
theorem wrapU (n : Int) (h0 : 0 < n) (h1 : n ≤ 64) : IntKind.u64.wrap n = n := by
 simp only [IntKind.wrap, IntKind.signed, IntKind.bits, Bool.false_eq_true, if_false]
 exact Int.emod_eq_of_lt (by omega) (by omega)
theorem refmembers_loop (l : List Int) (hl : l.length ≤ 64) (hr : ∀ x ∈ l, 0 < x ∧ x ≤ 64) : ∀ (m : Nat) (i : Int) (acc : List S26), 0 ≤ i → i + m = l.length → acc.length + m ≤ 64 → Ev (fun k => minstrelref19_members.l0 k l acc i) (2, 0, ⟨#[]⟩, acc ++ (l.drop i.toNat).map numC)
 | 0, i, acc, h0, hm, ha => by
  have hd : l.drop i.toNat = [] := List.drop_eq_nil_of_le (by omega)
  rw [hd, List.map_nil, List.append_nil]
  refine Ev.step (f := fun k => some (2, 0, ⟨#[]⟩, acc)) (fun k => ?_) (Ev.now _)
  rw [minstrelref19_members.l0, if_neg (by omega)]
  rfl
 | m + 1, i, acc, h0, hm, ha => by
  have e1 := Aside0.mk (wrap64_in (i + 1) (by omega) (by omega))
  have hx := hr (rd l i) (by
   have := drop_rdI l i h0 (by omega)
   exact List.mem_of_mem_drop (by rw [this]; exact List.mem_cons_self))
  rw [drop_rdI l i h0 (by omega), List.map_cons, List.append_cons]
  refine Ev.step (f := fun k => minstrelref19_members.l0 k l (acc ++ [numC (rd l i)]) (i + 1)) (fun k => ?_) (refmembers_loop l hl hr m (i + 1) (acc ++ [numC (rd l i)]) (by omega) (by omega) (by rw [List.length_append, List.length_singleton]; omega))
  rw [minstrelref19_members.l0, if_pos (by omega), if_pos h0, wrapU _ hx.1 hx.2, minstrelref07_Number.f, Option.bind_some, if_pos (by omega), e1.out]
  rfl
theorem refmembers_ev (l : List Int) (h : memB l = true) : Ev (fun k => minstrelref19_members.f k l) (2, 0, ⟨#[]⟩, l.map numC) := by
 obtain ⟨h0, h1, h2⟩ := memB_facts h
 have := refmembers_loop l h1 h2 l.length 0 [] (by omega) (by omega) (by simpa using h1)
 exact Ev.congr (fun k => by unfold minstrelref19_members.f; rfl) this
theorem read_loop (l : List Int) (hl : l.length ≤ 64) (hr : ∀ x ∈ l, 0 < x ∧ x ≤ 64) : ∀ (m : Nat) (i : Int) (acc : List Int), 0 ≤ i → i + m = l.length → acc = l.take i.toNat → Ev (fun k => snap_read.l0 k acc (l.map numC) (l.length : Int) i) (l, memB l)
 | 0, i, acc, h0, hm, ha => by
  rw [List.take_of_length_le (by omega)] at ha
  subst ha
  refine Ev.step (f := fun k => (snap_can.f k acc).bind fun t => some (acc, t)) (fun k => ?_) (Ev.bind (can_ev acc (by omega)) (Ev.now _))
  rw [snap_read.l0, if_neg (by omega)]
 | m + 1, i, acc, h0, hm, ha => by
  obtain ⟨n, rfl⟩ := Int.eq_ofNat_of_zero_le h0
  have hn : n < l.length := by omega
  have e1 := Aside0.mk (wrap64_in ((n : Int) + 1) (by omega) (by omega))
  have hx := hr l[n] (List.getElem_mem _)
  have hrd : rd_T26 (l.map numC) (n : Int) = numC l[n] := by rw [rd_at _ n (by simpa using hn), List.getElem_map]
  have e2 : wrap64 (numC l[n]).f1 = l[n] := wrap64_in _ (by have := hx.1; show -9223372036854775808 ≤ l[n]; omega) (by have := hx.2; show l[n] ≤ 9223372036854775807; omega)
  have e3 : ((n : Int) + 1).toNat = n + 1 := by omega
  have hacc : acc.length < 17592186044416 := by rw [ha, List.length_take]; omega
  refine Ev.step (f := fun k => snap_read.l0 k (acc ++ [l[n]]) (l.map numC) (l.length : Int) ((n : Int) + 1)) (fun k => ?_) (read_loop l hl hr m ((n : Int) + 1) (acc ++ [l[n]]) (by omega) (by omega) (by rw [e3, List.take_succ_eq_append_getElem hn, ha, Int.toNat_natCast]))
  rw [snap_read.l0, if_pos (by omega), if_pos h0, if_pos (by rw [List.length_map]; omega), hrd, if_pos (show (numC l[n]).f0 = 0 from rfl), if_neg (show ¬ (numC l[n]).f1 > 64 from by have := hx.2; show ¬ l[n] > 64; omega), if_pos hacc, e2, e1.out]
theorem read_ev (l : List Int) (h : memB l = true) : Ev (fun k => snap_read.f k 2 0 ⟨#[]⟩ (l.map numC)) (l, true) := by
 obtain ⟨h0, h1, h2⟩ := memB_facts h
 have := read_loop l h1 h2 l.length 0 [] (by omega) (by omega) (by simp)
 rw [h] at this
 exact Ev.congr (fun k => by unfold snap_read.f; rw [if_pos rfl, List.length_map]) this
end Go.Proofs.YtlkaffbgekbcfaaDoor.Pure
end
section
namespace Go.Proofs.YtlkaffbgekbcfaaDoor.Pure
open Go.RowKit Go.Proofs.YtlkaffbgekbcfaaDoor.Pr Go.Proofs.YtlkaffbgekbcfaaDoorW.PrintWords Go.Proofs.YtlkaffbgekbcfaaDoorW.PrintLast Go.Proofs.YtlkaffbgekbcfaaDoorW.PrintMore
def membersC (l : List Int) : S26 := ⟨2, 0, ⟨#[]⟩, l.map numC⟩
def topC (i t : Int) (l : List Int) (s u : S26) : S26 := ⟨2, 0, ⟨#[]⟩, [numC i, numC t, membersC l, s, u]⟩
theorem wf_small (n : Int) (h0 : 0 < n) (h1 : n ≤ 64) : (Lit.int .u64 n).wf = true := by
 simp [Lit.wf, IntKind.min, IntKind.max, IntKind.signed, IntKind.bits]
 omega
theorem wfc_num (n : Int) (h : (Lit.int .u64 n).wf = true) : ∀ j, wfc j (numC n)
 | 0 => trivial
 | j + 1 => ⟨rfl, h, Nat.zero_le _, Nat.zero_le _, fun x hx => by cases hx⟩
theorem szc_num (n : Int) : ∀ j, szc j (numC n)
 | 0 => trivial
 | j + 1 => ⟨Nat.zero_le _, fun x hx => by cases hx⟩
theorem wfc_members {l : List Int} (h : memB l = true) : ∀ j, wfc j (membersC l)
 | 0 => trivial
 | j + 1 => by
  obtain ⟨_, h1, h2⟩ := memB_facts h
  refine ⟨rfl, rfl, Nat.zero_le _, ?_, fun x hx => ?_⟩
  ·show (l.map numC).length ≤ maxLen
   rw [List.length_map]
   exact Nat.le_trans h1 (by decide)
  ·obtain ⟨n, hn, rfl⟩ := List.mem_map.1 hx
   exact wfc_num n (wf_small n (h2 n hn).1 (h2 n hn).2) j
theorem szc_members (l : List Int) : ∀ j, szc j (membersC l)
 | 0 => trivial
 | j + 1 => ⟨Nat.zero_le _, fun x hx => by
  obtain ⟨n, hn, rfl⟩ := List.mem_map.1 hx
  exact szc_num n j⟩
structure SnapOk (i t : Int) (s u : S26) : Prop where
 wi : (Lit.int .u64 i).wf = true
 wt : (Lit.int .u64 t).wf = true
 ws : ∀ j, wfc j s
 wu : ∀ j, wfc j u
 zs : ∀ j, szc j s
 zu : ∀ j, szc j u
variable {i t : Int} {l : List Int} {s u : S26}
theorem wfc_top (h : SnapOk i t s u) (hm : memB l = true) : ∀ j, wfc j (topC i t l s u)
 | 0 => trivial
 | j + 1 => by
  refine ⟨rfl, rfl, Nat.zero_le _, (by show 5 ≤ maxLen; decide), fun x hx => ?_⟩
  simp only [topC, List.mem_cons, List.not_mem_nil, or_false] at hx
  rcases hx with rfl | rfl | rfl | rfl | rfl
  ·exact wfc_num _ h.wi j
  ·exact wfc_num _ h.wt j
  ·exact wfc_members hm j
  ·exact h.ws j
  ·exact h.wu j
theorem szc_top (h : SnapOk i t s u) : ∀ j, szc j (topC i t l s u)
 | 0 => trivial
 | j + 1 => by
  refine ⟨Nat.zero_le _, fun x hx => ?_⟩
  simp only [topC, List.mem_cons, List.not_mem_nil, or_false] at hx
  rcases hx with rfl | rfl | rfl | rfl | rfl
  ·exact szc_num _ j
  ·exact szc_num _ j
  ·exact szc_members l j
  ·exact h.zs j
  ·exact h.zu j
theorem dep_num (n : Int) (k : Nat) : dep (k + 1) (numC n) = true := rfl
theorem dep_members (l : List Int) (k : Nat) : dep (k + 2) (membersC l) = true := by
 rw [dep]
 simp only [List.all_eq_true]
 intro x hx
 obtain ⟨n, _, rfl⟩ := List.mem_map.1 hx
 exact dep_num n k
theorem dep_top {K : Nat} (hs : dep K s = true) (hu : dep K u = true) : dep (K + 3) (topC i t l s u) = true := by
 rw [dep]
 simp only [List.all_eq_true]
 intro x hx
 simp only [topC, List.mem_cons, List.not_mem_nil, or_false] at hx
 rcases hx with rfl | rfl | rfl | rfl | rfl
 ·exact dep_num _ _
 ·exact dep_num _ _
 ·exact dep_members _ _
 ·exact dep_le hs (by omega)
 ·exact dep_le hu (by omega)
theorem nrm_num (n : Int) : ∀ k, nrm k (numC n) = numC n
 | 0 => rfl
 | k + 1 => by rw [nrm, if_pos (show (numC n).f0 = 0 from rfl)]; rfl
theorem nrm_members (l : List Int) : ∀ k, nrm k (membersC l) = membersC l
 | 0 => rfl
 | k + 1 => by
  rw [nrm, show (membersC l).f0 = 2 from rfl, if_neg (show ¬ (2 : Int) = 0 by decide), if_neg (show ¬ (2 : Int) = 1 by decide)]
  have : (l.map numC).map (nrm k) = l.map numC := by
   rw [List.map_map]
   exact List.map_congr_left fun n _ => nrm_num n k
  show (⟨2, 0, ⟨#[]⟩, (l.map numC).map (nrm k)⟩ : S26) = _
  rw [this]
  rfl
theorem nrm_top (k : Nat) : nrm (k + 1) (topC i t l s u) = topC i t l (nrm k s) (nrm k u) := by
 rw [nrm, show (topC i t l s u).f0 = 2 from rfl, if_neg (show ¬ (2 : Int) = 0 by decide), if_neg (show ¬ (2 : Int) = 1 by decide)]
 show (⟨2, 0, ⟨#[]⟩, [nrm k (numC i), nrm k (numC t), nrm k (membersC l), nrm k s, nrm k u]⟩ : S26) = _
 rw [nrm_num, nrm_num, nrm_members]
 rfl
def saveV (i : Int) (l : List Int) (r : List Int × Int) : List Int × Int :=
 if memB l = true then if i > 4611686018427387904 then ([], 2) else if r.2 = 0 then (if (r.1.length : Int) > 1048320 then ([], 2) else (frameL r.1, 0)) else ([], r.2) else ([], 1)
theorem Bytes.of_bts {l : List Int} (h : Bts l) : Bytes l := fun x hx => by have := h x hx; omega
theorem wr_bytes (h : SnapOk i t s u) (hm : memB l = true) {K : Nat} {xs : List Int} (hw : wrCell K (topC i t l s u) 0 [] = some (xs, 0)) : Bytes xs ∧ xs.length ≤ 1048576 := by
 obtain ⟨e, he, hl, hr⟩ := wr_read K _ 0 [] xs (wfc_top h hm) hw
 rw [List.nil_append] at he
 subst he
 exact ⟨Bytes.of_bts hr.bts, hl⟩
theorem refSave_ev (h : SnapOk i t s u) (hl : l.length ≤ 9223372036854775807) {K : Nat} {r : List Int × Int} (hw : wrCell K (topC i t l s u) 0 [] = some r) :
  Ev (fun k => minstrelref19_Save.f k i t l s.f0 s.f1 s.f2 s.f3 u.f0 u.f1 u.f2 u.f3) (saveV i l r) := by
 delta minstrelref19_Save.f
 refine Ev.bind (refMembers_ev l hl) ?_
 unfold saveV
 by_cases hm : memB l = true
 ·rw [hm]
  simp only [if_true]
  by_cases hi : i > 4611686018427387904
  ·simp only [if_pos hi]
   exact Ev.now _
  ·simp only [if_neg hi, minstrelref07_Number.f, Option.bind_some]
   refine Ev.bind (refmembers_ev l hm) ?_
   simp only [minstrelref07_List.f, Option.bind_some, eta26]
   have hE : Ev (fun k => minstrelref07_Encode.f k 2 0 (⟨#[]⟩ : ByteArray) [⟨0, i, ⟨#[]⟩, []⟩, ⟨0, t, ⟨#[]⟩, []⟩, ⟨2, 0, ⟨#[]⟩, l.map numC⟩, s, u]) (put2 r) := by
    have h9 := refEnc_ev (wfc_top h hm) (szc_top h) hw
    simp only [topC, membersC, numC] at h9
    exact h9
   refine Ev.bind hE ?_
   obtain ⟨xs, e0⟩ := r
   rw [put2]
   by_cases he : e0 = 0
   ·subst he
    simp only [if_true]
    by_cases hx : (xs.length : Int) > 1048320
    ·simp only [if_pos hx]
     exact Ev.now _
    ·obtain ⟨hb, hlx⟩ := wr_bytes h hm hw
     simp only [if_neg hx]
     exact Ev.bind (Ev.of (fun k => minstrelref06_Frame.mono xs k) (ref_Frame_eq xs hb (by omega))) (Ev.now _)
   ·simp only [if_neg he]
    exact Ev.now _
 ·rw [Bool.not_eq_true] at hm
  rw [hm]
  simp only [Bool.false_eq_true, if_false]
  exact Ev.now _
theorem First_frame {xs : List Int} (hb : Bytes xs) (hl : xs.length ≤ 1048576) : frame_First.f (frameL xs) = some (xs, ((frameL xs).length : Int), 0) := by
 have := First_back xs [] hb (fun x hx => by cases hx) hl
 rwa [List.append_nil] at this
theorem load_top {xs : List Int} (hb : Bytes xs) (hl : xs.length ≤ 1048320) (hm : memB l = true) (hi : ¬ i > 4611686018427387904) (hd : Ev (fun k => code_Decode.f k xs) (2, 0, ⟨#[]⟩, [numC i, numC t, membersC l, s, u], 0)) :
  Ev (fun k => snap_Load.f k (frameL xs)) (i, t, l, s.f0, s.f1, s.f2, s.f3, u.f0, u.f1, u.f2, u.f3, 0) := by
 delta snap_Load.f
 simp only [First_frame hb (by omega : xs.length ≤ 1048576), Option.bind_some, if_neg (show ¬ (xs.length : Int) > 1048320 by omega), if_true, bne_self_eq_false]
 apply Ev.step
 ·intro k
  rw [snap_Load.j0]
 simp only [Bool.false_eq_true, if_false]
 refine Ev.bind hd ?_
 have r0 : rd_T26 [numC i, numC t, membersC l, s, u] 0 = numC i := rfl
 have r1 : rd_T26 [numC i, numC t, membersC l, s, u] 1 = numC t := rfl
 have r2 : rd_T26 [numC i, numC t, membersC l, s, u] 2 = membersC l := rfl
 have r3 : rd_T26 [numC i, numC t, membersC l, s, u] 3 = s := rfl
 have r4 : rd_T26 [numC i, numC t, membersC l, s, u] 4 = u := rfl
 have hlen : ([numC i, numC t, membersC l, s, u].length : Int) = 5 := rfl
 simp only [if_true, r0, r1, hlen, show (0 : Int) < 5 by decide, show (1 : Int) < 5 by decide, show (numC i).f0 = 0 from rfl, show (numC t).f0 = 0 from rfl, bne_self_eq_false]
 apply Ev.step
 ·intro k
  rw [snap_Load.j1]
 simp only [Bool.false_eq_true, if_false, r0, r1, r2, r3, r4, hlen, show (2 : Int) < 5 by decide, if_true]
 refine Ev.bind (read_ev l hm) ?_
 simp only [if_true, show (0 : Int) < 5 by decide, show (1 : Int) < 5 by decide, show (3 : Int) < 5 by decide, show (4 : Int) < 5 by decide, if_neg (show ¬ (numC i).f1 > 4611686018427387904 from hi)]
 exact Ev.now _
end Go.Proofs.YtlkaffbgekbcfaaDoor.Pure
end
section
namespace Go.Proofs.YtlkaffbgekbcfaaDoor.Pure
open Go.RowKit Go.Proofs.YtlkaffbgekbcfaaDoor.Pr Go.Proofs.YtlkaffbgekbcfaaDoorW.PrintWords Go.Proofs.YtlkaffbgekbcfaaDoorW.PrintLast Go.Proofs.YtlkaffbgekbcfaaDoorW.PrintMore
variable {i t : Int} {l : List Int} {s u : S26}
theorem saveV_ok {r : List Int × Int} (h : (saveV i l r).2 = 0) : memB l = true ∧ ¬ i > 4611686018427387904 ∧ r.2 = 0 ∧ ¬ (r.1.length : Int) > 1048320 ∧ saveV i l r = (frameL r.1, 0) := by
 unfold saveV at h ⊢
 by_cases hm : memB l = true
 ·rw [if_pos hm] at h ⊢
  by_cases hi : i > 4611686018427387904
  ·rw [if_pos hi] at h; simp at h
  ·rw [if_neg hi] at h ⊢
   by_cases h0 : r.2 = 0
   ·rw [if_pos h0] at h ⊢
    by_cases hx : (r.1.length : Int) > 1048320
    ·rw [if_pos hx] at h; simp at h
    ·rw [if_neg hx]
     exact ⟨hm, hi, h0, hx, rfl⟩
   ·rw [if_neg h0] at h
    exact absurd h h0
 ·rw [if_neg hm] at h; simp at h
theorem sameL_loop (l : List Int) (hl : l.length ≤ 9223372036854775807) (a b c d : Int) (e f : ByteArray) : ∀ (m : Nat) (j : Int), 0 ≤ j → j + m = l.length → Ev (fun k => minstrelref19_Same.l0 k j a b e l c d f l) true
 | 0, j, h0, hm => by
  refine Ev.step (f := fun k => some true) (fun k => ?_) (Ev.now _)
  rw [minstrelref19_Same.l0, if_neg (by omega)]
 | m + 1, j, h0, hm => by
  have e1 := Aside0.mk (wrap64_in (j + 1) (by omega) (by omega))
  refine Ev.step (f := fun k => minstrelref19_Same.l0 k (j + 1) a b e l c d f l) (fun k => ?_) (sameL_loop l hl a b c d e f m (j + 1) (by omega) (by omega))
  rw [minstrelref19_Same.l0, if_pos (by omega), if_pos h0, if_pos (by omega), if_pos rfl, e1.out]
theorem sameL_ev (l : List Int) (hl : l.length ≤ 9223372036854775807) (a b : Int) (e : ByteArray) : Ev (fun k => minstrelref19_Same.f k a b e l a b e l) true := by
 delta minstrelref19_Same.f
 simp only [if_true, bne_self_eq_false]
 apply Ev.step
 ·intro k
  rw [minstrelref19_Same.j0]
 simp only [Bool.false_eq_true, if_false]
 exact sameL_loop l hl _ _ _ _ _ _ l.length 0 (by omega) (by omega)
theorem snaps_ev (l : List Int) (hl : l.length ≤ 9223372036854775807) {a b c d : S26} (h1 : Ev (fun k => minstrelref07_Same.f k a.f0 a.f1 a.f2 a.f3 c.f0 c.f1 c.f2 c.f3) true) (h2 : Ev (fun k => minstrelref07_Same.f k b.f0 b.f1 b.f2 b.f3 d.f0 d.f1 d.f2 d.f3) true) :
  Ev (fun k => minstrelref19_Snaps.f k i t l a.f0 a.f1 a.f2 a.f3 b.f0 b.f1 b.f2 b.f3 i t l c.f0 c.f1 c.f2 c.f3 d.f0 d.f1 d.f2 d.f3) true := by
 delta minstrelref19_Snaps.f
 simp only [if_true]
 refine Ev.bind (sameL_ev l hl 0 0 ⟨#[]⟩) ?_
 simp only [if_true]
 refine Ev.bind h1 ?_
 simp only [if_true]
 exact Ev.bind h2 (Ev.now _)
theorem lives_true : minstrellaw19_lives.f 80 = some true := by kernel_rfl
theorem lives_ev : Ev (fun k => minstrellaw19_lives.f k) true := Ev.of minstrellaw19_lives.mono lives_true
end Go.Proofs.YtlkaffbgekbcfaaDoor.Pure
end
section
namespace Go.Proofs.YtlkaffbgekbcfaaDoor.Pure
open Go.RowKit Go.Proofs.YtlkaffbgekbcfaaDoor.Pr Go.Proofs.YtlkaffbgekbcfaaDoorW.PrintWords Go.Proofs.YtlkaffbgekbcfaaDoorW.PrintLast Go.Proofs.YtlkaffbgekbcfaaDoorW.PrintMore
def numAt (x : S26) : Int := if x.f1 ≤ 64 then wrap64 x.f1 else 0
def numsOf (c : S26) : List Int := if c.f0 = 2 then c.f3.map numAt else []
theorem nums_loop (c : S26) (hl : c.f3.length ≤ 1048576) (h2 : c.f0 = 2) : ∀ (m : Nat) (i : Int) (acc : List Int), 0 ≤ i → i + m = c.f3.length → acc.length + m ≤ 1048576 → Ev (fun k => minstrelref19_numbers.l0 k acc i c.f0 c.f1 c.f2 c.f3) (acc ++ (c.f3.drop i.toNat).map numAt)
 | 0, i, acc, h0, hm, ha => by
  have hd : c.f3.drop i.toNat = [] := List.drop_eq_nil_of_le (by omega)
  rw [hd, List.map_nil, List.append_nil]
  refine Ev.step (f := fun k => minstrelref19_numbers.j1 k acc i (decide (i < (c.f3.length : Int))) c.f0 c.f1 c.f2 c.f3) (fun k => ?_) ?_
  ·rw [minstrelref19_numbers.l0, if_pos h2]
  ·rw [decide_eq_false (by omega)]
   refine Ev.step (f := fun k => some acc) (fun k => ?_) (Ev.now _)
   rw [minstrelref19_numbers.j1, if_neg (by decide)]
 | m + 1, i, acc, h0, hm, ha => by
  have e1 := Aside0.mk (wrap64_in (i + 1) (by omega) (by omega))
  have ih := nums_loop c hl h2 m (i + 1) (acc ++ [numAt (rd_T26 c.f3 i)]) (by omega) (by omega) (by rw [List.length_append, List.length_singleton]; omega)
  rw [drop_rd c.f3 i h0 (by omega), List.map_cons, List.append_cons]
  refine Ev.step (f := fun k => minstrelref19_numbers.j1 k acc i (decide (i < (c.f3.length : Int))) c.f0 c.f1 c.f2 c.f3) (fun k => ?_) ?_
  ·rw [minstrelref19_numbers.l0, if_pos h2]
  ·rw [decide_eq_true (show i < (c.f3.length : Int) by omega)]
   refine Ev.step (fun k => ?_) ih
   rw [minstrelref19_numbers.j1, if_pos rfl, if_pos h0, if_pos (by omega)]
   unfold numAt
   by_cases h : (rd_T26 c.f3 i).f1 ≤ 64
   ·rw [if_pos h, if_pos h, if_pos (by omega), e1.out]
   ·rw [if_neg h, if_neg h, if_pos (by omega), e1.out]
theorem numbers_ev (c : S26) (hl : c.f3.length ≤ 1048576) : Ev (fun k => minstrelref19_numbers.f k c.f0 c.f1 c.f2 c.f3) (numsOf c) := by
 unfold numsOf
 by_cases h2 : c.f0 = 2
 ·rw [if_pos h2]
  have := nums_loop c hl h2 c.f3.length 0 [] (by omega) (by omega) (by simpa using hl)
  exact Ev.congr (fun k => by unfold minstrelref19_numbers.f; rfl) this
 ·rw [if_neg h2]
  refine Ev.congr (f := fun k => minstrelref19_numbers.l0 k [] 0 c.f0 c.f1 c.f2 c.f3) (fun k => by unfold minstrelref19_numbers.f; rfl) ?_
  refine Ev.step (f := fun k => minstrelref19_numbers.j1 k [] 0 false c.f0 c.f1 c.f2 c.f3) (fun k => ?_) ?_
  ·rw [minstrelref19_numbers.l0, if_neg h2]
  ·refine Ev.step (f := fun k => some []) (fun k => ?_) (Ev.now _)
   rw [minstrelref19_numbers.j1, if_neg (by decide)]
end Go.Proofs.YtlkaffbgekbcfaaDoor.Pure
end
section
namespace Go.Proofs.YtlkaffbgekbcfaaDoor.Pure
open Go.RowKit Go.Proofs.YtlkaffbgekbcfaaDoor.Pr Go.Proofs.YtlkaffbgekbcfaaDoorW.PrintWords Go.Proofs.YtlkaffbgekbcfaaDoorW.PrintLast Go.Proofs.YtlkaffbgekbcfaaDoorW.PrintMore
theorem number_l0 (xs : List Int) (hb : Bts xs) (hl : xs.length ≤ 8) : ∀ (d k i m : Nat) (n : Int), i + d = xs.length → d < k → 0 ≤ n → n < 256 ^ m → m ≤ i → minstrelref07_number.l0 k xs n (i : Int) = some (beV (xs.drop i) n)
 | 0, k, i, m, n, hi, hk, h0, h1, hm => by
  obtain ⟨k, rfl⟩ : ∃ j, k = j + 1 := ⟨k - 1, by omega⟩
  rw [minstrelref07_number.l0, if_neg (by omega), List.drop_eq_nil_of_le (by omega)]
  rfl
 | d + 1, k, i, m, n, hi, hk, h0, h1, hm => by
  obtain ⟨k, rfl⟩ : ∃ j, k = j + 1 := ⟨k - 1, by omega⟩
  have hlt : i < xs.length := by omega
  have hx : rd xs (i : Int) = xs[i] := by
   unfold rd
   rw [Int.toNat_natCast, List.getD_eq_getElem?_getD, List.getElem?_eq_getElem hlt]
   rfl
  have hbx := hb xs[i] (List.getElem_mem _)
  have hn : n < 72057594037927936 := Int.lt_of_lt_of_le h1 (by
   have h7 : (256 : Nat) ^ m ≤ 256 ^ 7 := Nat.pow_le_pow_right (by decide) (show m ≤ 7 by omega)
   have h8 : ((256 ^ m : Nat) : Int) ≤ ((72057594037927936 : Nat) : Int) := Int.ofNat_le.2 h7
   rwa [Int.natCast_pow] at h8)
  rw [minstrelref07_number.l0, if_pos (by omega), if_pos (by omega), hx, IntWalk.u64_in (n * 256) (by omega), IntWalk.u64_in xs[i] (by omega), IntWalk.u64_in (n * 256 + xs[i]) (by omega), wrap64_in _ (by omega) (by omega),
   show ((i : Int) + 1) = ((i + 1 : Nat) : Int) by omega, number_l0 xs hb hl d k (i + 1) (m + 1) _ (by omega) (by omega) (by omega) (by rw [Int.pow_succ]; omega) (by omega), List.drop_eq_getElem_cons hlt, beV]
theorem numberC_eq (xs : List Int) (hb : Bts xs) (hl : xs.length ≤ 8) : Ev (fun k => minstrelref07_number.f k xs) (beV xs 0) :=
 ⟨xs.length + 1, fun k hk => by
  have := number_l0 xs hb hl xs.length k 0 0 0 (by omega) (by omega) (by decide) (by decide) (Nat.le_refl _)
  rw [List.drop_zero] at this
  exact this⟩
def outR (bs : List Int) (r : S26 × List Int × Int) : Int × Int × ByteArray × (List S26) × Int × Int :=
 if r.2.2 = 0 then (r.1.f0, r.1.f1, r.1.f2, r.1.f3, ((bs.length - r.2.1.length : Nat) : Int), 0) else (0, 0, ⟨#[]⟩, [], 0, r.2.2)
theorem drop_of_suffix {bs pre rest : List Int} {n : Nat} (h : bs.drop n = pre ++ rest) (hn : n ≤ bs.length) : rest = bs.drop (bs.length - rest.length) ∧ bs.length - rest.length ≤ bs.length ∧ n ≤ bs.length - rest.length := by
 have hl := congrArg List.length h
 rw [List.length_drop, List.length_append] at hl
 refine ⟨?_, by omega, by omega⟩
 have h2 : rest = (bs.drop n).drop pre.length := by rw [h, List.drop_left]
 rw [List.drop_drop] at h2
 rw [show bs.length - rest.length = n + pre.length by omega]
 exact h2
theorem readC_loop (bs : List Int) (hl : bs.length ≤ 1048576) (K deep : Nat) (hd : deep + 1 ≤ 64)
  (ih : ∀ (n : Nat) (c : S26) (rest : List Int) (e : Int), n ≤ bs.length → rdCell K (deep + 1) (bs.drop n) = some (c, rest, e) → Ev (fun k => minstrelref07_read.f k bs (n : Int) ((deep + 1 : Nat) : Int)) (outR bs (c, rest, e)))
  (N b x y : Int) (s : ByteArray) (hN : 0 ≤ N ∧ N ≤ 1048576) :
  ∀ (m n : Nat) (i : Int) (acc L : List S26) (rest : List Int) (e : Int), n ≤ bs.length → 0 ≤ i → i + m = N → (acc.length : Int) = i → foldR (fun ys => rdCell K (deep + 1) ys) m acc (bs.drop n) = some (L, rest, e) →
   Ev (fun k => minstrelref07_read.l0 k bs (n : Int) (deep : Int) N i b x s acc) (if e = 0 then (b, x, s, L, ((bs.length - rest.length : Nat) : Int), 0) else (0, 0, ⟨#[]⟩, [], 0, e))
 | 0, n, i, acc, L, rest, e, hn, hi, him, hacc, h => by
  simp only [foldR, Option.some.injEq, Prod.mk.injEq] at h
  obtain ⟨rfl, rfl, rfl⟩ := h
  refine Ev.step (f := fun k => some (b, x, s, acc, (n : Int), 0)) (fun k => ?_) ?_
  ·rw [minstrelref07_read.l0, wrap64_in N (by omega) (by omega), if_neg (by omega)]
  ·rw [if_pos rfl, List.length_drop, show bs.length - (bs.length - n) = n by omega]
   exact Ev.now _
 | m + 1, n, i, acc, L, rest, e, hn, hi, him, hacc, h => by
  simp only [foldR] at h
  obtain ⟨⟨⟨c0, c1, c2, c3⟩, r, e2⟩, h1, h2⟩ := Option.bind_eq_some_iff.mp h
  obtain ⟨pre, hpre⟩ := rdCell_suffix _ _ _ _ _ _ h1
  obtain ⟨hr1, hr2, hr3⟩ := drop_of_suffix hpre hn
  refine Ev.step (f := fun k => (minstrelref07_read.f k bs (n : Int) (wrap64 ((deep : Int) + 1))).bind fun bt108 => (if bt108.2.2.2.2.2 = 0 then (if acc.length < 2513169434916 then (minstrelref07_read.l0 k bs bt108.2.2.2.2.1 deep N (wrap64 (i + 1)) b x s (acc ++ [(⟨bt108.1, bt108.2.1, bt108.2.2.1, bt108.2.2.2.1⟩ : S26)])) else (none)) else (some (0, 0, (⟨#[]⟩ : ByteArray), ([] : List (S26)), 0, bt108.2.2.2.2.2)))) (fun k => ?_) ?_
  ·rw [minstrelref07_read.l0, wrap64_in N (by omega) (by omega), if_pos (by omega)]
  ·have hw : wrap64 ((deep : Int) + 1) = ((deep + 1 : Nat) : Int) := by rw [wrap64_in _ (by omega) (by omega)]; omega
   rw [hw]
   clear hw
   refine Ev.bind (ih n ⟨c0, c1, c2, c3⟩ r e2 hn h1) ?_
   unfold outR
   simp only
   by_cases he : e2 = 0
   ·subst he
    rw [if_pos rfl] at h2
    simp only [if_true]
    have HW2 : Aside0 (wrap64 (i + 1) = i + 1) := ⟨wrap64_in _ (by omega) (by omega)⟩
    have := readC_loop bs hl K deep hd ih N b x y s hN m (bs.length - r.length) (i + 1) (acc ++ [⟨c0, c1, c2, c3⟩]) L rest e hr2 (by omega) (by omega) (by rw [List.length_append, List.length_singleton]; omega) (by rw [← hr1]; exact h2)
    refine Ev.congr (fun k => ?_) this
    rw [if_pos (by omega), HW2.out]
   ·rw [if_neg he] at h2
    simp only [Option.some.injEq, Prod.mk.injEq] at h2
    obtain ⟨rfl, rfl, rfl⟩ := h2
    simp only [if_neg he]
    exact Ev.now _
theorem drop_cons {bs : List Int} {n : Nat} (h : n < bs.length) : bs.drop n = bs[n] :: bs.drop (n + 1) := List.drop_eq_getElem_cons h
theorem rd_get {bs : List Int} {n : Nat} (h : n < bs.length) : rd bs (n : Int) = bs[n] := by
 unfold rd
 rw [Int.toNat_natCast, List.getD_eq_getElem?_getD, List.getElem?_eq_getElem h]
 rfl
theorem take_drop_4 (bs : List Int) (n m : Nat) : (bs.take (n + m)).drop n = (bs.drop n).take m := by rw [List.drop_take]; congr 1; omega
set_option maxHeartbeats 1600000 in
theorem read_eq (bs : List Int) (hb : Bts bs) (hl : bs.length ≤ 1048576) : ∀ (K deep n : Nat) (c : S26) (rest : List Int) (e : Int), n ≤ bs.length → deep ≤ 64 → rdCell K deep (bs.drop n) = some (c, rest, e) →
   Ev (fun k => minstrelref07_read.f k bs (n : Int) (deep : Int)) (outR bs (c, rest, e))
 | 0, deep, n, c, rest, e, hn, hd, h => by simp [rdCell] at h
 | K + 1, deep, n, c, rest, e, hn, hd, h => by
  rcases Nat.lt_or_ge n bs.length with hlt | hge
  ·rw [drop_cons hlt] at h
   have hbb := hb bs[n] (List.getElem_mem _)
   generalize hbe : bs[n] = b at *
   have HW : Aside0 (wrap64 b = b) := ⟨wrap64_in b (by omega) (by omega)⟩
   have hrd : rd bs (n : Int) = b := by rw [rd_get hlt, hbe]
   have HW1 : Aside0 (wrap64 ((n : Int) + 1) = ((n + 1 : Nat) : Int)) := ⟨by rw [wrap64_in _ (by omega) (by omega)]; omega⟩
   have htl : (bs.drop (n + 1)).length = bs.length - (n + 1) := List.length_drop
   simp only [rdCell, HW.out] at h
   by_cases hb2 : b > 2
   ·rw [if_neg (by omega), if_neg (by omega), if_neg (by omega)] at h
    simp only [Option.some.injEq, Prod.mk.injEq] at h
    obtain ⟨rfl, rfl, rfl⟩ := h
    refine Ev.step (f := fun k => some (0, 0, (⟨#[]⟩ : ByteArray), ([] : List (S26)), 0, 4)) (fun k => ?_) (Ev.now _)
    rw [minstrelref07_read.f, if_neg (by omega), if_pos (by omega), if_pos (by omega), hrd, HW.out, if_pos hb2]
   ·by_cases hd2 : b = 2 ∧ 64 < deep + 1
    ·obtain ⟨rfl, hd3⟩ := hd2
     rw [if_neg (by decide), if_neg (by decide), if_pos rfl, if_pos hd3] at h
     simp only [Option.some.injEq, Prod.mk.injEq] at h
     obtain ⟨rfl, rfl, rfl⟩ := h
     refine Ev.step (f := fun k => minstrelref07_read.j0 k bs ((n + 1 : Nat) : Int) (deep : Int) true 2 0 ⟨#[]⟩) (fun k => ?_) (Ev.step (f := fun k => some (0, 0, (⟨#[]⟩ : ByteArray), ([] : List (S26)), 0, 2)) (fun k => ?_) (Ev.now _))
     ·rw [minstrelref07_read.f, if_neg (by omega), if_pos (by omega), if_pos (by omega), hrd, HW.out, if_neg hb2, if_pos rfl, HW1.out, show decide ((deep : Int) ≥ 64) = true from decide_eq_true (by omega)]
     ·rw [minstrelref07_read.j0, if_pos rfl]
    ·
     obtain ⟨sz, hsz⟩ : ∃ sz : Nat, sz = if b = 0 then 8 else 4 := ⟨_, rfl⟩
     have hsz8 : sz = 4 ∨ sz = 8 := by rw [hsz]; split <;> omega
     have hj : Ev (fun k => minstrelref07_read.j1 k bs ((n + 1 : Nat) : Int) (deep : Int) (sz : Int) b 0 ⟨#[]⟩) (outR bs (c, rest, e)) → Ev (fun k => minstrelref07_read.f k bs (n : Int) (deep : Int)) (outR bs (c, rest, e)) := by
      intro hev
      refine Ev.step (f := fun k => minstrelref07_read.j0 k bs ((n + 1 : Nat) : Int) (deep : Int) false b 0 ⟨#[]⟩) (fun k => ?_) (Ev.step (f := fun k => minstrelref07_read.j1 k bs ((n + 1 : Nat) : Int) (deep : Int) (sz : Int) b 0 ⟨#[]⟩) (fun k => ?_) hev)
      ·rw [minstrelref07_read.f, if_neg (by omega), if_pos (by omega), if_pos (by omega), hrd, HW.out, if_neg hb2, HW1.out]
       by_cases hb22 : b = 2
       ·rw [if_pos hb22, show decide ((deep : Int) ≥ 64) = false from decide_eq_false (by omega)]
       ·rw [if_neg hb22]
      ·rw [minstrelref07_read.j0, if_neg (by decide)]
       by_cases hb0 : b = 0
       ·rw [if_pos hb0, hsz, if_pos hb0]; rfl
       ·rw [if_neg hb0, hsz, if_neg hb0]; rfl
     apply hj
     clear hj
     have HW2 : Aside0 (wrap64 (((n + 1 : Nat) : Int) + (sz : Int)) = ((n + 1 + sz : Nat) : Int)) := ⟨by rw [wrap64_in _ (by omega) (by omega)]; omega⟩
     by_cases hshort : bs.length < n + 1 + sz
     ·have he3 : c = z26 ∧ e = 3 := by
       by_cases hb0 : b = 0
       ·rw [hsz, if_pos hb0] at hshort
        rw [if_pos hb0, if_pos (by omega)] at h
        simp only [Option.some.injEq, Prod.mk.injEq] at h
        exact ⟨h.1.symm, h.2.2.symm⟩
       ·rw [hsz, if_neg hb0] at hshort
        rw [if_neg hb0] at h
        by_cases hb1 : b = 1
        ·rw [if_pos hb1, if_pos (by omega)] at h
         simp only [Option.some.injEq, Prod.mk.injEq] at h
         exact ⟨h.1.symm, h.2.2.symm⟩
        ·rw [if_neg hb1, if_pos (by omega), if_neg (by omega), if_pos (by omega)] at h
         simp only [Option.some.injEq, Prod.mk.injEq] at h
         exact ⟨h.1.symm, h.2.2.symm⟩
      obtain ⟨rfl, rfl⟩ := he3
      refine Ev.step (f := fun k => some (0, 0, (⟨#[]⟩ : ByteArray), ([] : List (S26)), 0, 3)) (fun k => ?_) (Ev.now _)
      rw [minstrelref07_read.j1, HW2.out, if_pos (by omega)]
     ·have hcut : (bs.take ((n + 1 + sz : Nat) : Int).toNat).drop ((n + 1 : Nat) : Int).toNat = (bs.drop (n + 1)).take sz := by
       rw [Int.toNat_natCast, Int.toNat_natCast, take_drop_4]
      have hnum : Ev (fun k => minstrelref07_number.f k ((bs.drop (n + 1)).take sz)) (beV ((bs.drop (n + 1)).take sz) 0) := numberC_eq _ ((hb.drop _).take _) (by rw [List.length_take]; omega)
      generalize hV : beV ((bs.drop (n + 1)).take sz) 0 = V at hnum
      refine Ev.step (f := fun k => (minstrelref07_number.f k ((bs.drop (n + 1)).take sz)).bind fun t106 => (if b = 0 then (some (b, t106, (⟨#[]⟩ : ByteArray), ([] : List (S26)), ((n + 1 + sz : Nat) : Int), 0)) else (if t106 > (IntKind.u64.wrap (wrap64 ((bs.length : Int) - ((n + 1 + sz : Nat) : Int)))) then (some (0, 0, (⟨#[]⟩ : ByteArray), ([] : List (S26)), 0, 3)) else (if b = 1 then (if 0 ≤ ((n + 1 + sz : Nat) : Int) then (if ((n + 1 + sz : Nat) : Int) ≤ (wrap64 (((n + 1 + sz : Nat) : Int) + (wrap64 (t106)))) then (if (wrap64 (((n + 1 + sz : Nat) : Int) + (wrap64 (t106)))) ≤ (bs.length : Int) then (some (b, 0, strOfNums ((bs.take ((wrap64 (((n + 1 + sz : Nat) : Int) + (wrap64 (t106)))) : Int).toNat).drop (((n + 1 + sz : Nat) : Int) : Int).toNat), ([] : List (S26)), wrap64 (((n + 1 + sz : Nat) : Int) + (wrap64 (t106))), 0)) else (none)) else (none)) else (none)) else (minstrelref07_read.l0 k bs ((n + 1 + sz : Nat) : Int) deep t106 0 b 0 (⟨#[]⟩ : ByteArray) ([] : List (S26))))))) (fun k => ?_) (Ev.bind hnum ?_)
      ·rw [minstrelref07_read.j1, HW2.out, if_neg (by omega), if_pos (by omega), if_pos (by omega), if_pos (by omega), hcut]
      ·by_cases hb0 : b = 0
       ·simp only [if_pos hb0]
        rw [hsz, if_pos hb0] at hshort hV
        rw [if_pos hb0, if_neg (by omega)] at h
        simp only [Option.some.injEq, Prod.mk.injEq] at h
        obtain ⟨rfl, rfl, rfl⟩ := h
        have h5 := take8 (hb.drop (n + 1)) (by omega)
        have : outR bs (⟨b, numR ((bs.drop (n + 1)).take 8) 0, ⟨#[]⟩, []⟩, (bs.drop (n + 1)).drop 8, 0) = (b, V, (⟨#[]⟩ : ByteArray), ([] : List (S26)), ((n + 1 + sz : Nat) : Int), 0) := by
         unfold outR
         simp only [if_true]
         rw [h5.2.2.2, hV, List.length_drop, List.length_drop, hsz, if_pos hb0, show bs.length - (bs.length - (n + 1) - 8) = n + 1 + 8 by omega]
        rw [this]
        exact Ev.now _
       ·simp only [if_neg hb0]
        rw [hsz, if_neg hb0] at hshort hV
        have hs4 : sz = 4 := by rw [hsz, if_neg hb0]
        subst hs4
        rw [if_neg hb0] at h
        have h5 := take4 (hb.drop (n + 1)) (by omega)
        rw [hV] at h5
        have HWN : Aside0 (wrap64 (numR ((bs.drop (n + 1)).take 4) 0) = V) := ⟨by rw [h5.2.2.2, wrap64_in _ (by omega) (by omega)]⟩
        have HWV : Aside0 (wrap64 V = V) := ⟨wrap64_in _ (by omega) (by omega)⟩
        have HU : Aside0 (IntKind.u64.wrap (wrap64 ((bs.length : Int) - ((n + 1 + 4 : Nat) : Int))) = ((bs.length - (n + 1 + 4) : Nat) : Int)) := ⟨by
         rw [wrap64_in _ (by omega) (by omega), IntWalk.u64_in _ (by omega)]; omega⟩
        rw [HWN.out, List.length_drop] at h
        simp only [HU.out, HWV.out]
        have hdd : (bs.drop (n + 1)).drop 4 = bs.drop (n + 1 + 4) := by rw [List.drop_drop]
        rw [hdd] at h
        by_cases hb1 : b = 1
        ·rw [if_pos hb1, if_neg (by omega), if_pos h5.2.1, List.length_drop] at h
         by_cases hlong : ((bs.length - (n + 1 + 4) : Nat) : Int) < V
         ·rw [if_pos (by omega)] at h
          simp only [Option.some.injEq, Prod.mk.injEq] at h
          obtain ⟨rfl, rfl, rfl⟩ := h
          simp only [if_pos (show V > ((bs.length - (n + 1 + 4) : Nat) : Int) from hlong)]
          exact Ev.now _
         ·rw [if_neg (by omega)] at h
          simp only [Option.some.injEq, Prod.mk.injEq] at h
          obtain ⟨rfl, rfl, rfl⟩ := h
          obtain ⟨v, hv⟩ : ∃ v : Nat, V = (v : Int) := Int.eq_ofNat_of_zero_le h5.2.1
          subst hv
          have HW3 : Aside0 (wrap64 (((n + 1 + 4 : Nat) : Int) + (v : Int)) = ((n + 1 + 4 + v : Nat) : Int)) := ⟨by rw [wrap64_in _ (by omega) (by omega)]; omega⟩
          simp only [if_neg (show ¬ (v : Int) > ((bs.length - (n + 1 + 4) : Nat) : Int) from hlong), if_pos hb1, HW3.out]
          rw [if_pos (by omega), if_pos (by omega), if_pos (by omega), Int.toNat_natCast, Int.toNat_natCast, take_drop_4]
          have : outR bs (⟨b, 0, strOfNums ((bs.drop (n + 1 + 4)).take ((v : Int)).toNat), []⟩, (bs.drop (n + 1 + 4)).drop ((v : Int)).toNat, 0) = (b, 0, strOfNums ((bs.drop (n + 1 + 4)).take v), ([] : List (S26)), ((n + 1 + 4 + v : Nat) : Int), 0) := by
           unfold outR
           simp only [if_true, Int.toNat_natCast]
           rw [List.length_drop, List.length_drop, show bs.length - (bs.length - (n + 1 + 4) - v) = n + 1 + 4 + v by omega]
          rw [this]
          exact Ev.now _
        ·have hb22 : b = 2 := by omega
         rw [if_neg hb1, if_pos hb22, if_neg (by omega), if_neg (by omega), List.length_drop] at h
         by_cases hlong : ((bs.length - (n + 1 + 4) : Nat) : Int) < V
         ·rw [if_pos (by omega)] at h
          simp only [Option.some.injEq, Prod.mk.injEq] at h
          obtain ⟨rfl, rfl, rfl⟩ := h
          simp only [if_pos (show V > ((bs.length - (n + 1 + 4) : Nat) : Int) from hlong)]
          exact Ev.now _
         ·rw [if_neg (by omega)] at h
          obtain ⟨⟨L, r, e2⟩, h6, h7⟩ := Option.map_eq_some_iff.1 h
          simp only [Prod.mk.injEq] at h7
          obtain ⟨rfl, rfl, rfl⟩ := h7
          simp only [if_neg (show ¬ V > ((bs.length - (n + 1 + 4) : Nat) : Int) from hlong), if_neg hb1]
          have := readC_loop bs hl K deep (by omega) (fun n c rest e hn hr => read_eq bs hb hl K (deep + 1) n c rest e hn (by omega) hr) V b 0 0 ⟨#[]⟩ ⟨by omega, by omega⟩ V.toNat (n + 1 + 4) 0 [] L r e2 (by omega) (by omega) (by omega) rfl h6
          exact this
  ·have hn2 : n = bs.length := by omega
   rw [List.drop_eq_nil_of_le hge] at h
   simp only [rdCell, Option.some.injEq, Prod.mk.injEq] at h
   obtain ⟨rfl, rfl, rfl⟩ := h
   refine Ev.step (f := fun k => some (0, 0, (⟨#[]⟩ : ByteArray), ([] : List (S26)), 0, 3)) (fun k => ?_) (Ev.now _)
   rw [minstrelref07_read.f, if_pos (by omega)]
end Go.Proofs.YtlkaffbgekbcfaaDoor.Pure
end
section
namespace Go.Proofs.YtlkaffbgekbcfaaDoor.Pure
open Go.RowKit Go.Proofs.YtlkaffbgekbcfaaDoor.Pr Go.Proofs.YtlkaffbgekbcfaaDoorW.PrintWords Go.Proofs.YtlkaffbgekbcfaaDoorW.PrintLast Go.Proofs.YtlkaffbgekbcfaaDoorW.PrintMore
theorem rd_good : ∀ (k deep : Nat) (bs : List Int) (c : S26) (rest : List Int), Bts bs → bs.length ≤ 1048576 → rdCell k deep bs = some (c, rest, 0) → dep (k + 1) c = true ∧ ∀ j, len j c
 | 0, deep, bs, c, rest, hb, hl, h => by simp [rdCell] at h
 | k + 1, deep, [], c, rest, hb, hl, h => by simp [rdCell] at h
 | k + 1, deep, b :: bs, c, rest, hb, hl, h => by
  have ht := hb.tail
  rw [List.length_cons] at hl
  have leaf : ∀ (x y : Int) (s : ByteArray), dep (k + 1 + 1) (⟨x, y, s, []⟩ : S26) = true ∧ ∀ j, len j (⟨x, y, s, []⟩ : S26) := fun x y s => ⟨by simp [dep], fun j => by
   cases j with
   | zero => trivial
   | succ j => exact ⟨by simp, fun x hx => by cases hx⟩⟩
  simp only [rdCell] at h
  split at h
  ·split at h
   ·simp at h
   ·simp only [Option.some.injEq, Prod.mk.injEq] at h
    rw [← h.1]; exact leaf _ _ _
  ·split at h
   ·split at h
    ·simp at h
    ·split at h
     ·split at h
      ·simp at h
      ·simp only [Option.some.injEq, Prod.mk.injEq] at h
       rw [← h.1]; exact leaf _ _ _
     ·simp at h
   ·split at h
    ·split at h
     ·simp at h
     ·split at h
      ·simp at h
      ·rename_i h4
       split at h
       ·simp at h
       ·rename_i hn
        obtain ⟨⟨L, r, e2⟩, h6, h7⟩ := Option.map_eq_some_iff.1 h
        simp only [Prod.mk.injEq] at h7
        obtain ⟨rfl, rfl, rfl⟩ := h7
        obtain ⟨L', p, hL, hn2, hp, _⟩ := fold_back (g := fun x ys => wrCell k x (deep + 1) ys) (fun bs c rest e => rdCell_suffix k (deep + 1) bs c rest e) (fun ys c rest hy hyl hr => rd_back k (deep + 1) ys c rest hy hyl hr) _ _ _ _ _ (ht.drop 4) (by rw [List.length_drop]; omega) h6
        rw [List.nil_append] at hL
        subst hL
        rw [List.length_drop] at hn
        have hgood : ∀ x ∈ L, dep (k + 1) x = true ∧ ∀ j, len j x := by
         have key : ∀ (n : Nat) (acc M : List S26) (ys rest : List Int), Bts ys → ys.length ≤ 1048576 → (∀ x ∈ acc, dep (k + 1) x = true ∧ ∀ j, len j x) → foldR (fun ys => rdCell k (deep + 1) ys) n acc ys = some (M, rest, 0) → ∀ x ∈ M, dep (k + 1) x = true ∧ ∀ j, len j x := by
          intro n
          induction n with
          | zero =>
           intro acc M ys rest _ _ ha h
           simp only [foldR, Option.some.injEq, Prod.mk.injEq] at h
           rw [← h.1]; exact ha
          | succ n ihn =>
           intro acc M ys rest hy hyl ha h
           simp only [foldR] at h
           obtain ⟨⟨x, r2, e2⟩, g1, g2⟩ := Option.bind_eq_some_iff.mp h
           by_cases he : e2 = 0
           ·subst he
            rw [if_pos rfl] at g2
            obtain ⟨pre, hpre⟩ := rdCell_suffix _ _ _ _ _ _ g1
            refine ihn _ M r2 rest (hy.suffix hpre) (by rw [hpre, List.length_append] at hyl; omega) (fun y hy2 => ?_) g2
            rcases List.mem_append.1 hy2 with hy2 | hy2
            ·exact ha y hy2
            ·rw [List.mem_singleton.1 hy2]; exact rd_good k (deep + 1) ys x r2 hy hyl g1
           ·rw [if_neg he] at g2
            simp only [Option.some.injEq, Prod.mk.injEq] at g2
            exact absurd g2.2.2 he
         exact key _ [] L (bs.drop 4) r (ht.drop 4) (by rw [List.length_drop]; omega) (fun x hx => by cases hx) h6
        refine ⟨by rw [dep]; simp only [List.all_eq_true]; exact fun x hx => (hgood x hx).1, fun j => ?_⟩
        cases j with
        | zero => trivial
        | succ j => exact ⟨by show L.length ≤ _; omega, fun x hx => (hgood x hx).2 j⟩
    ·simp at h
theorem decode_both (l0 : List Int) (hb : Bts l0) : ∃ r : S26 × Int, (r.2 ≠ 0 → r.1 = z26) ∧ Ev (fun k => code_Decode.f k l0) (r.1.f0, r.1.f1, r.1.f2, r.1.f3, r.2) ∧ Ev (fun k => minstrelref07_Decode.f k l0) (r.1.f0, r.1.f1, r.1.f2, r.1.f3, r.2) ∧
   (∃ d, dep d r.1 = true) ∧ (∀ j, len j r.1) ∧ (r.2 = 0 → rdCell 65 0 l0 = some (r.1, [], 0) ∧ wrCell 65 r.1 0 [] = some (l0, 0)) := by
 have hz : (∃ d, dep d z26 = true) ∧ ∀ j, len j z26 := ⟨⟨1, rfl⟩, fun j => by
  cases j with
  | zero => trivial
  | succ j => exact ⟨by simp [z26], fun x hx => by cases hx⟩⟩
 by_cases hl : 1048576 < l0.length
 ·refine ⟨(z26, 2), fun _ => rfl, ⟨0, fun k _ => ?_⟩, ⟨0, fun k _ => ?_⟩, hz.1, hz.2, fun h => by cases h⟩
  ·show code_Decode.f k l0 = _; unfold code_Decode.f; rw [if_pos hl]; rfl
  ·show minstrelref07_Decode.f k l0 = _; unfold minstrelref07_Decode.f; rw [if_pos (by omega)]; rfl
 ·obtain ⟨⟨c, rest, e⟩, hr⟩ := rdCell_some 65 0 l0 hb (by omega) (by omega)
  have href := read_eq l0 hb (by omega) 65 0 0 c rest e (by omega) (by omega) (by rw [List.drop_zero]; exact hr)
  have hdec : Ev (fun k => code_Decode.f k l0) (decR (c, rest, e)) := ⟨65, fun k hk => by
   show code_Decode.f k l0 = _
   unfold code_Decode.f
   rw [if_neg hl, at_rounds (g := fun k => rdCell k 0 l0) (fun k r h => rdCell_mono k 0 l0 r h) hk hr]
   rfl⟩
  have hrdec : ∀ v, Ev (fun k => (minstrelref07_read.f k l0 0 0).bind fun bt121 => (if bt121.2.2.2.2.2 = 0 then (if bt121.2.2.2.2.1 < (l0.length : Int) then (some (0, 0, (⟨#[]⟩ : ByteArray), ([] : List (S26)), 4)) else (some (bt121.1, bt121.2.1, bt121.2.2.1, bt121.2.2.2.1, 0))) else (some (0, 0, (⟨#[]⟩ : ByteArray), ([] : List (S26)), bt121.2.2.2.2.2)))) v → Ev (fun k => minstrelref07_Decode.f k l0) v := fun v hv => Ev.congr (fun k => by unfold minstrelref07_Decode.f; rw [if_neg (by omega)]) hv
  obtain ⟨pre, hpre⟩ := rdCell_suffix _ _ _ _ _ _ hr
  have hlen := congrArg List.length hpre
  rw [List.length_append] at hlen
  by_cases he : e = 0
  ·subst he
   by_cases hrest : 0 < rest.length
   ·refine ⟨(z26, 4), fun _ => rfl, ?_, hrdec _ (Ev.bind href ?_), hz.1, hz.2, fun h => by cases h⟩
    ·have : decR (c, rest, 0) = (z26.f0, z26.f1, z26.f2, z26.f3, 4) := by unfold decR; simp only [if_true]; rw [if_pos hrest]; rfl
     rw [← this]; exact hdec
    ·unfold outR
     simp only [if_true]
     rw [if_pos (by omega)]
     exact Ev.now _
   ·have hr0 : rest = [] := List.eq_nil_of_length_eq_zero (by omega)
    subst hr0
    have hgood := rd_good 65 0 l0 c [] hb (by omega) hr
    obtain ⟨pre2, hp2, hw2⟩ := rd_back 65 0 l0 c [] hb (by omega) hr
    rw [List.append_nil] at hp2
    subst hp2
    refine ⟨(c, 0), fun h => absurd rfl h, ?_, hrdec _ (Ev.bind href ?_), ⟨_, hgood.1⟩, hgood.2, fun _ => ⟨hr, by have := hw2 [] (by simp only [List.length_nil]; omega); rwa [List.nil_append] at this⟩⟩
    ·have : decR (c, [], 0) = (c.f0, c.f1, c.f2, c.f3, 0) := by unfold decR; simp only [if_true]; rw [if_neg hrest]
     rw [← this]; exact hdec
    ·unfold outR
     simp only [if_true]
     rw [if_neg (by simp)]
     exact Ev.now _
  ·refine ⟨(z26, e), fun _ => rfl, ?_, hrdec _ (Ev.bind href ?_), hz.1, hz.2, fun h => absurd h he⟩
   ·have : decR (c, rest, e) = (z26.f0, z26.f1, z26.f2, z26.f3, e) := by unfold decR; simp only [if_neg he]; rfl
    rw [← this]; exact hdec
   ·unfold outR
    simp only [if_neg he]
    exact Ev.now _
end Go.Proofs.YtlkaffbgekbcfaaDoor.Pure
end
section
namespace Go.Proofs.YtlkaffbgekbcfaaDoor.Pure
open Go.RowKit Go.Proofs.YtlkaffbgekbcfaaDoor.Pr Go.Proofs.YtlkaffbgekbcfaaDoorW.PrintWords Go.Proofs.YtlkaffbgekbcfaaDoorW.PrintLast Go.Proofs.YtlkaffbgekbcfaaDoorW.PrintMore
def lnc : Nat → S26 → Prop
 | 0, _ => True
 | k + 1, c => c.f3.length ≤ 1048576 ∧ ∀ x ∈ c.f3, lnc k x
theorem rd_wf : ∀ (k deep : Nat) (bs : List Int) (c : S26) (rest : List Int), Bts bs → bs.length ≤ 1048576 → rdCell k deep bs = some (c, rest, 0) → (∀ j, wfc j c) ∧ (∀ j, szc j c) ∧ (∀ j, lnc j c)
 | 0, deep, bs, c, rest, hb, hl, h => by simp [rdCell] at h
 | k + 1, deep, [], c, rest, hb, hl, h => by simp [rdCell] at h
 | k + 1, deep, b :: bs, c, rest, hb, hl, h => by
  have ht := hb.tail
  rw [List.length_cons] at hl
  have leaf : ∀ (x y : Int) (s : ByteArray), (Lit.int .i64 x).wf = true → (Lit.int .u64 y).wf = true → s.size ≤ 140737488351232 → (∀ j, wfc j (⟨x, y, s, []⟩ : S26)) ∧ (∀ j, szc j (⟨x, y, s, []⟩ : S26)) ∧ ∀ j, lnc j (⟨x, y, s, []⟩ : S26) := fun x y s hx hy hs => ⟨fun j => by
   cases j with
   | zero => trivial
   | succ j => exact ⟨hx, hy, by show s.size ≤ maxLen; simp only [maxLen]; omega, Nat.zero_le _, fun x hx => by cases hx⟩, fun j => by
   cases j with
   | zero => trivial
   | succ j => exact ⟨hs, fun x hx => by cases hx⟩, fun j => by
   cases j with
   | zero => trivial
   | succ j => exact ⟨Nat.zero_le _, fun x hx => by cases hx⟩⟩
  simp only [rdCell] at h
  split at h
  ·split at h
   ·simp at h
   ·rename_i h0 h8
    simp only [Option.some.injEq, Prod.mk.injEq] at h
    obtain ⟨_, q1, q2, q3⟩ := take8 ht (by omega)
    rw [← h.1]; exact leaf _ _ _ (by rw [h0]; rfl) (by rw [q3]; simp [Lit.wf, IntKind.min, IntKind.max, IntKind.signed, IntKind.bits]; omega) (Nat.zero_le _)
  ·split at h
   ·split at h
    ·simp at h
    ·split at h
     ·split at h
      ·simp at h
      ·rename_i h0 h1 h4 h5 h6
       simp only [Option.some.injEq, Prod.mk.injEq] at h
       rw [← h.1]
       refine leaf _ _ _ (by rw [h1]; rfl) (by rfl) ?_
       have hsz : (strOfNums ((bs.drop 4).take (wrap64 (numR (bs.take 4) 0)).toNat)).size = ((bs.drop 4).take (wrap64 (numR (bs.take 4) 0)).toNat).length := by simp [strOfNums, ByteArray.size]
       rw [hsz, List.length_take, List.length_drop]
       omega
     ·simp at h
   ·split at h
    ·split at h
     ·simp at h
     ·split at h
      ·simp at h
      ·rename_i h4
       split at h
       ·simp at h
       ·rename_i hn
        obtain ⟨⟨L, r, e2⟩, h6, h7⟩ := Option.map_eq_some_iff.1 h
        simp only [Prod.mk.injEq] at h7
        obtain ⟨rfl, rfl, rfl⟩ := h7
        obtain ⟨L', p, hL, hn2, hp, _⟩ := fold_back (g := fun x ys => wrCell k x (deep + 1) ys) (fun bs c rest e => rdCell_suffix k (deep + 1) bs c rest e) (fun ys c rest hy hyl hr => rd_back k (deep + 1) ys c rest hy hyl hr) _ _ _ _ _ (ht.drop 4) (by rw [List.length_drop]; omega) h6
        rw [List.nil_append] at hL
        subst hL
        rw [List.length_drop] at hn
        have hgood : ∀ x ∈ L, (∀ j, wfc j x) ∧ (∀ j, szc j x) ∧ (∀ j, lnc j x) := by
         have key : ∀ (n : Nat) (acc M : List S26) (ys rest : List Int), Bts ys → ys.length ≤ 1048576 → (∀ x ∈ acc, (∀ j, wfc j x) ∧ (∀ j, szc j x) ∧ (∀ j, lnc j x)) → foldR (fun ys => rdCell k (deep + 1) ys) n acc ys = some (M, rest, 0) → ∀ x ∈ M, (∀ j, wfc j x) ∧ (∀ j, szc j x) ∧ (∀ j, lnc j x) := by
          intro n
          induction n with
          | zero =>
           intro acc M ys rest _ _ ha h
           simp only [foldR, Option.some.injEq, Prod.mk.injEq] at h
           rw [← h.1]; exact ha
          | succ n ihn =>
           intro acc M ys rest hy hyl ha h
           simp only [foldR] at h
           obtain ⟨⟨x, r2, e2⟩, g1, g2⟩ := Option.bind_eq_some_iff.mp h
           by_cases he : e2 = 0
           ·subst he
            rw [if_pos rfl] at g2
            obtain ⟨pre, hpre⟩ := rdCell_suffix _ _ _ _ _ _ g1
            refine ihn _ M r2 rest (hy.suffix hpre) (by rw [hpre, List.length_append] at hyl; omega) (fun y hy2 => ?_) g2
            rcases List.mem_append.1 hy2 with hy2 | hy2
            ·exact ha y hy2
            ·rw [List.mem_singleton.1 hy2]; exact rd_wf k (deep + 1) ys x r2 hy hyl g1
           ·rw [if_neg he] at g2
            simp only [Option.some.injEq, Prod.mk.injEq] at g2
            exact absurd g2.2.2 he
         exact key _ [] L (bs.drop 4) r (ht.drop 4) (by rw [List.length_drop]; omega) (fun x hx => by cases hx) h6
        refine ⟨fun j => ?_, fun j => ?_, fun j => ?_⟩
        ·cases j with
         | zero => trivial
         | succ j => exact ⟨by show (Lit.int .i64 (wrap64 b)).wf = true; rw [show wrap64 b = 2 by assumption]; rfl, rfl, Nat.zero_le _, by show L.length ≤ maxLen; simp only [maxLen]; omega, fun x hx => (hgood x hx).1 j⟩
        ·cases j with
         | zero => trivial
         | succ j => exact ⟨Nat.zero_le _, fun x hx => (hgood x hx).2.1 j⟩
        ·cases j with
         | zero => trivial
         | succ j => exact ⟨by show L.length ≤ 1048576; omega, fun x hx => (hgood x hx).2.2 j⟩
    ·simp at h
end Go.Proofs.YtlkaffbgekbcfaaDoor.Pure
end
section
namespace Go.Proofs.YtlkaffbgekbcfaaDoor.Pure
open Go.RowKit Go.Proofs.YtlkaffbgekbcfaaDoor.Pr Go.Proofs.YtlkaffbgekbcfaaDoorW.PrintWords Go.Proofs.YtlkaffbgekbcfaaDoorW.PrintLast Go.Proofs.YtlkaffbgekbcfaaDoorW.PrintMore Go.Proofs.YtlkaffbgekbcfaaDoor.Crc
def readR (acc : List Int) : List S26 → List Int × Bool
 | [] => (acc, memB acc)
 | x :: r => if x.f0 = 0 then if x.f1 > 64 then ([], false) else readR (acc ++ [wrap64 x.f1]) r else ([], false)
theorem readAll_loop (L : List S26) (hl : L.length ≤ 1048576) : ∀ (m : Nat) (i : Int) (acc : List Int), 0 ≤ i → i + m = L.length → acc.length + m ≤ 1048576 → Ev (fun k => snap_read.l0 k acc L (L.length : Int) i) (readR acc (L.drop i.toNat))
 | 0, i, acc, h0, hm, ha => by
  have hd : L.drop i.toNat = [] := List.drop_eq_nil_of_le (by omega)
  rw [hd, readR]
  refine Ev.step (f := fun k => (snap_can.f k acc).bind fun t => some (acc, t)) (fun k => ?_) (Ev.bind (can_ev acc (by omega)) (Ev.now _))
  rw [snap_read.l0, if_neg (by omega)]
 | m + 1, i, acc, h0, hm, ha => by
  have e1 := Aside0.mk (wrap64_in (i + 1) (by omega) (by omega))
  rw [drop_rd L i h0 (by omega), readR]
  by_cases h1 : (rd_T26 L i).f0 = 0
  ·rw [if_pos h1]
   by_cases h2 : (rd_T26 L i).f1 > 64
   ·rw [if_pos h2]
    refine Ev.step (f := fun k => some ([], false)) (fun k => ?_) (Ev.now _)
    rw [snap_read.l0, if_pos (by omega), if_pos h0, if_pos (by omega), if_pos h1, if_pos h2]
   ·rw [if_neg h2]
    refine Ev.step (fun k => ?_) (readAll_loop L hl m (i + 1) (acc ++ [wrap64 (rd_T26 L i).f1]) (by omega) (by omega) (by rw [List.length_append, List.length_singleton]; omega))
    rw [snap_read.l0, if_pos (by omega), if_pos h0, if_pos (by omega), if_pos h1, if_neg h2, if_pos (by omega), e1.out]
  ·rw [if_neg h1]
   refine Ev.step (f := fun k => some ([], false)) (fun k => ?_) (Ev.now _)
   rw [snap_read.l0, if_pos (by omega), if_pos h0, if_pos (by omega), if_neg h1]
def readV (c : S26) : List Int × Bool := if c.f0 = 2 then readR [] c.f3 else ([], false)
theorem readAll_ev (c : S26) (hl : c.f3.length ≤ 1048576) : Ev (fun k => snap_read.f k c.f0 c.f1 c.f2 c.f3) (readV c) := by
 unfold readV
 by_cases h2 : c.f0 = 2
 ·rw [if_pos h2]
  have := readAll_loop c.f3 hl c.f3.length 0 [] (by omega) (by omega) (by simpa using hl)
  exact Ev.congr (fun k => by unfold snap_read.f; rw [if_pos h2]) this
 ·rw [if_neg h2]
  exact Ev.congr (f := fun k => some ([], false)) (fun k => by unfold snap_read.f; rw [if_neg h2]) (Ev.now _)
theorem readR_ok : ∀ (L : List S26) (acc : List Int), (readR acc L).2 = true → (readR acc L).1 = acc ++ L.map numAt ∧ memB (acc ++ L.map numAt) = true ∧ ∀ x ∈ L, x.f0 = 0 ∧ x.f1 ≤ 64
 | [], acc, h => by
  rw [readR] at h ⊢
  rw [List.map_nil, List.append_nil]
  exact ⟨rfl, h, fun x hx => by cases hx⟩
 | x :: r, acc, h => by
  rw [readR] at h ⊢
  by_cases h1 : x.f0 = 0
  ·rw [if_pos h1] at h ⊢
   by_cases h2 : x.f1 > 64
   ·rw [if_pos h2] at h; cases h
   ·rw [if_neg h2] at h ⊢
    obtain ⟨a, b, c⟩ := readR_ok r _ h
    have hn : wrap64 x.f1 = numAt x := by unfold numAt; rw [if_pos (by omega)]
    rw [hn, List.append_assoc] at a b
    rw [hn]
    refine ⟨a, b, fun y hy => ?_⟩
    rcases List.mem_cons.1 hy with rfl | hy
    ·exact ⟨h1, by omega⟩
    ·exact c y hy
  ·rw [if_neg h1] at h; cases h
theorem readV_ok {c : S26} (h : (readV c).2 = true) : c.f0 = 2 ∧ (readV c).1 = numsOf c ∧ memB (numsOf c) = true ∧ ∀ x ∈ c.f3, x.f0 = 0 ∧ x.f1 ≤ 64 := by
 unfold readV at h ⊢
 by_cases h2 : c.f0 = 2
 ·rw [if_pos h2] at h ⊢
  obtain ⟨a, b, d⟩ := readR_ok _ _ h
  rw [List.nil_append] at a b
  unfold numsOf
  rw [if_pos h2]
  exact ⟨h2, a, b, d⟩
 ·rw [if_neg h2] at h; cases h
theorem nrm_list {k : Nat} {c : S26} (h : nrm (k + 1) c = c) (h2 : c.f0 = 2) : c = ⟨2, 0, ⟨#[]⟩, c.f3⟩ ∧ ∀ x ∈ c.f3, nrm k x = x := by
 rw [nrm, if_neg (by omega), if_neg (by omega)] at h
 have h3 := congrArg S26.f3 h
 refine ⟨?_, ?_⟩
 ·rw [← h]
 ·have h4 : c.f3.map (nrm k) = c.f3 := h3
  intro x hx
  have : c.f3.map (nrm k) = c.f3.map id := by rw [h4, List.map_id]
  exact (List.map_inj_left.1 this) x hx
theorem nrm_number {k : Nat} {c : S26} (h : nrm (k + 1) c = c) (h0 : c.f0 = 0) : c = numC c.f1 := by
 rw [nrm, if_pos h0] at h
 exact h.symm
theorem members_plain {k : Nat} {c : S26} (h : nrm (k + 2) c = c) (hw : ∀ j, wfc j c) (h2 : c.f0 = 2) (hx : ∀ x ∈ c.f3, x.f0 = 0 ∧ x.f1 ≤ 64) : c = membersC (numsOf c) := by
 obtain ⟨a, b⟩ := nrm_list h h2
 unfold membersC numsOf
 rw [if_pos h2, List.map_map]
 have : c.f3.map (numC ∘ numAt) = c.f3 := by
  have e : c.f3.map (numC ∘ numAt) = c.f3.map id := List.map_congr_left fun x hx' => by
   have h1 := hx x hx'
   have h3 := nrm_number (b x hx') h1.1
   have hwx := (hw 2).2.2.2.2 x hx'
   have hu : (Lit.int .u64 x.f1).wf = true := hwx.2.1
   have hp : 0 ≤ x.f1 ∧ x.f1 ≤ 18446744073709551615 := by simpa [Lit.wf, IntKind.min, IntKind.max, IntKind.signed, IntKind.bits] using hu
   show numC (numAt x) = x
   unfold numAt
   rw [if_pos h1.2, wrap64_in _ (by omega) (by have := h1.2; omega)]
   exact h3.symm
  rw [e, List.map_id]
 rw [this]
 exact a
theorem first_ok {l x : List Int} {n : Int} (h : minstrelref06_First.f l = some (x, n, 0)) : frameL x = l.take n.toNat ∧ 0 ≤ n ∧ n ≤ l.length ∧ x.length ≤ 1048576 ∧ Bytes x := by
 obtain ⟨hb, h⟩ := minstrelref06_First.cases h
 rcases h with h | ⟨h8, h⟩
 ·exact absurd h.2.2.2 (by decide)
 rcases h with h | ⟨hn, h⟩
 ·exact absurd h.2.2.2 (by decide)
 rcases h with h | ⟨h1, h⟩
 ·exact absurd h.2.2.2 (by decide)
 rcases h with ⟨e, rfl, rfl, _⟩ | h
 ·have hr := num4_range hb (by omega)
  refine ⟨e, by omega, h1, ?_, bytes_dropped (fun y hy => hb y (List.mem_of_mem_take hy)) 8⟩
  rw [List.length_drop, List.length_take]
  omega
 ·exact absurd h.2.2.2 (by decide)
theorem nrm_read {l : List Int} {c : S26} (hb : Bts l) (hl : l.length ≤ 1048576) (hr : rdCell 65 0 l = some (c, [], 0)) (hw : wrCell 65 c 0 [] = some (l, 0)) : nrm 65 c = c := by
 obtain ⟨h1, h2, _⟩ := rd_wf 65 0 l c [] hb hl hr
 obtain ⟨e, he, _, hwr⟩ := wr_read 65 c 0 [] l h1 hw
 rw [List.nil_append] at he
 subst he
 have := hwr.whole []
 rw [List.append_nil] at this
 have h3 : some (nrm 65 c, ([] : List Int), (0 : Int)) = some (c, [], 0) := this.symm.trans hr
 simp only [Option.some.injEq, Prod.mk.injEq, and_true] at h3
 exact h3
theorem getD_in {α : Type} {L : List α} {n : Nat} {d : α} (h : n < L.length) : L.getD n d = L[n] := by
 rw [List.getD_eq_getElem?_getD, List.getElem?_eq_getElem h, Option.getD_some]
theorem getD_out {α : Type} {L : List α} {n : Nat} {d : α} (h : L.length ≤ n) : L.getD n d = d := by
 rw [List.getD_eq_getElem?_getD, List.getElem?_eq_none h, Option.getD_none]
def partC (c : S26) (n : Nat) : S26 := if c.f0 = 2 then c.f3.getD n z26 else z26
theorem part_eq (c : S26) (n : Nat) : minstrelref19_part.f c.f0 c.f1 c.f2 c.f3 (n : Int) = some ((partC c n).f0, (partC c n).f1, (partC c n).f2, (partC c n).f3) := by
 unfold minstrelref19_part.f partC
 by_cases h2 : c.f0 = 2
 ·rw [if_pos h2, if_pos h2]
  by_cases hn : (n : Int) ≥ (c.f3.length : Int)
  ·rw [if_pos hn, getD_out (by omega)]
   rfl
  ·have hlt : n < c.f3.length := by omega
   rw [if_neg hn, if_pos (by omega), if_pos (by omega), rd_at _ _ hlt, getD_in hlt]
 ·rw [if_neg h2, if_neg h2]
  rfl
theorem part_all {P : S26 → Prop} {c : S26} (hz : P z26) (h : ∀ x ∈ c.f3, P x) (n : Nat) : P (partC c n) := by
 unfold partC
 by_cases h2 : c.f0 = 2
 ·rw [if_pos h2]
  by_cases hn : n < c.f3.length
  ·rw [getD_in hn]
   exact h _ (List.getElem_mem hn)
  ·rw [getD_out (by omega)]
   exact hz
 ·rw [if_neg h2]
  exact hz
theorem wfc_zero : ∀ j, wfc j z26
 | 0 => trivial
 | j + 1 => ⟨rfl, rfl, Nat.zero_le _, Nat.zero_le _, fun x hx => by cases hx⟩
theorem szc_zero : ∀ j, szc j z26
 | 0 => trivial
 | j + 1 => ⟨Nat.zero_le _, fun x hx => by cases hx⟩
end Go.Proofs.YtlkaffbgekbcfaaDoor.Pure
end
section
namespace Go.Proofs.YtlkaffbgekbcfaaDoor.Pure
open Go.RowKit Go.Proofs.YtlkaffbgekbcfaaDoor.Pr Go.Proofs.YtlkaffbgekbcfaaDoorW.PrintWords Go.Proofs.YtlkaffbgekbcfaaDoorW.PrintLast Go.Proofs.YtlkaffbgekbcfaaDoorW.PrintMore Go.Proofs.YtlkaffbgekbcfaaDoor.Crc
abbrev Cel := S26
abbrev LdT := Int × Int × List Int × Int × Int × ByteArray × (List Cel) × Int × Int × ByteArray × (List Cel) × Int
def errT : LdT := (0, 0, [], 0, 0, ⟨#[]⟩, [], 0, 0, ⟨#[]⟩, [], 4)
def okT (i t : Int) (l : List Int) (s u : Cel) : LdT := (i, t, l, s.f0, s.f1, s.f2, s.f3, u.f0, u.f1, u.f2, u.f3, 0)
def good (l0 x : List Int) (n : Int) (c : Cel) : Prop :=
 x.length ≤ 1048320 ∧ n = (l0.length : Int) ∧ c.f0 = 2 ∧ c.f3.length = 5 ∧ (partC c 0).f0 = 0 ∧ (partC c 1).f0 = 0 ∧ (readV (partC c 2)).2 = true ∧ ¬ (partC c 0).f1 > 4611686018427387904
theorem rd_part {c : Cel} (h2 : c.f0 = 2) {n : Nat} (h : n < c.f3.length) : rd_T26 c.f3 (n : Int) = partC c n := by
 unfold partC
 rw [if_pos h2, rd_at _ _ h, getD_in h]
theorem len_of_lnc : ∀ (j : Nat) (c : Cel), lnc j c → len j c
 | 0, c, h => trivial
 | j + 1, c, h => ⟨by have := h.1; omega, fun x hx => len_of_lnc j x (h.2 x hx)⟩
theorem len_part {c : Cel} (hl : ∀ j, lnc j c) (n : Nat) : (partC c n).f3.length ≤ 1048576 ∧ ∀ j, len j (partC c n) := by
 have hz : (z26).f3.length ≤ 1048576 ∧ ∀ j, len j z26 := ⟨Nat.zero_le _, fun j => by
  cases j with
  | zero => trivial
  | succ j => exact ⟨by simp [z26], fun x hx => by cases hx⟩⟩
 exact part_all (P := fun x => x.f3.length ≤ 1048576 ∧ ∀ j, len j x) hz (fun x hx => ⟨((hl 2).2 x hx).1, fun j => len_of_lnc j x ((hl (j + 1)).2 x hx)⟩) n
theorem load_err {x r : List Int} {m c : Int} (h : frame_First.f x = some (r, m, c)) (hc : ¬ c = 0) : Ev (fun k => snap_Load.f k x) errT := by
 delta snap_Load.f
 simp only [h, Option.bind_some]
 by_cases hr : (r.length : Int) > 1048320
 ·simp only [if_pos hr]
  exact Ev.now _
 ·simp only [if_neg hr, if_neg hc]
  apply Ev.step
  ·intro k
   rw [snap_Load.j0]
  simp only [if_true]
  exact Ev.now _
theorem snap_err {l0 x : List Int} {n e2 : Int} {c : Cel} (hF : frame_First.f l0 = some (x, n, 0)) (hd : Ev (fun k => code_Decode.f k x) (c.f0, c.f1, c.f2, c.f3, e2)) (hl : (partC c 2).f3.length ≤ 1048576) (hn : e2 = 0 → ¬ good l0 x n c) : Ev (fun k => snap_Load.f k l0) errT := by
 delta snap_Load.f
 simp only [hF, Option.bind_some]
 by_cases h1 : (x.length : Int) > 1048320
 ·simp only [if_pos h1]
  exact Ev.now _
 ·simp only [if_neg h1, if_true]
  apply Ev.step
  ·intro k
   rw [snap_Load.j0]
  by_cases h2 : n = (l0.length : Int)
  ·simp only [h2, bne_self_eq_false, Bool.false_eq_true, if_false]
   refine Ev.bind hd ?_
   have jt : Ev (fun k => snap_Load.j1 k true c.f0 c.f1 c.f2 c.f3) errT := by
    apply Ev.step
    ·intro k
     rw [snap_Load.j1]
    simp only [if_true]
    exact Ev.now _
   by_cases h3 : e2 = 0
   ·have hg := hn h3
    simp only [h3, if_true]
    by_cases h4 : c.f0 = 2
    ·simp only [if_pos h4]
     by_cases h5 : c.f3.length = 5
     ·have h5' : (c.f3.length : Int) = 5 := by omega
      have r0 : rd_T26 c.f3 0 = partC c 0 := rd_part h4 (n := 0) (by omega)
      have r1 : rd_T26 c.f3 1 = partC c 1 := rd_part h4 (n := 1) (by omega)
      have r2 : rd_T26 c.f3 2 = partC c 2 := rd_part h4 (n := 2) (by omega)
      simp only [h5', r0, r1, show (0 : Int) < 5 by decide, show (1 : Int) < 5 by decide, if_true]
      by_cases h6 : (partC c 0).f0 = 0
      ·simp only [if_pos h6]
       by_cases h7 : (partC c 1).f0 = 0
       ·simp only [h7, bne_self_eq_false]
        apply Ev.step
        ·intro k
         rw [snap_Load.j1]
        simp only [Bool.false_eq_true, if_false, h5', r0, r1, r2, show (2 : Int) < 5 by decide, show (0 : Int) < 5 by decide, if_true]
        refine Ev.bind (readAll_ev _ hl) ?_
        by_cases h8 : (readV (partC c 2)).2 = true
        ·simp only [if_pos h8]
         by_cases h9 : (partC c 0).f1 > 4611686018427387904
         ·simp only [if_pos h9]
          exact Ev.now _
         ·exact absurd ⟨by omega, h2, h4, h5, h6, h7, h8, h9⟩ hg
        ·simp only [if_neg h8]
         exact Ev.now _
       ·have : ((partC c 1).f0 != 0) = true := by simpa using h7
        simp only [this]
        exact jt
      ·simp only [if_neg h6]
       exact jt
     ·simp only [if_neg (show ¬ (c.f3.length : Int) = 5 by omega)]
      exact jt
    ·simp only [if_neg h4]
     exact jt
   ·simp only [if_neg h3]
    exact jt
  ·have : (n != (l0.length : Int)) = true := by simpa using h2
   simp only [this, if_true]
   exact Ev.now _
theorem wr_up {a b : Nat} (h : a ≤ b) {c : Cel} {deep : Nat} {xs : List Int} {r : List Int × Int} (hw : wrCell a c deep xs = some r) : wrCell b c deep xs = some r :=
 at_rounds (g := fun k => wrCell k c deep xs) (fun k r h => wrCell_mono k c deep xs r h) h hw
theorem rd_up {a b : Nat} (h : a ≤ b) {deep : Nat} {bs : List Int} {r : Cel × List Int × Int} (hw : rdCell a deep bs = some r) : rdCell b deep bs = some r :=
 at_rounds (g := fun k => rdCell k deep bs) (fun k r h => rdCell_mono k deep bs r h) h hw
theorem five {L : List Cel} (h : L.length = 5) : L = [L.getD 0 z26, L.getD 1 z26, L.getD 2 z26, L.getD 3 z26, L.getD 4 z26] := by
 match L, h with
 | [a, b, c, d, e], _ => rfl
theorem good_top {l0 x : List Int} {n : Int} {c : Cel} (h : good l0 x n c) (hn : nrm 65 c = c) (hw : ∀ j, wfc j c) : c = topC (partC c 0).f1 (partC c 1).f1 (numsOf (partC c 2)) (partC c 3) (partC c 4) ∧ memB (numsOf (partC c 2)) = true := by
 obtain ⟨_, _, h2, h5, h6, h7, h8, h9⟩ := h
 obtain ⟨hc, hx⟩ := nrm_list hn h2
 obtain ⟨a, b, d, e⟩ := readV_ok h8
 have hp : ∀ n : Nat, n < 5 → partC c n ∈ c.f3 := fun n hn => by
  unfold partC
  rw [if_pos h2, getD_in (by omega)]
  exact List.getElem_mem _
 refine ⟨?_, d⟩
 have hl : c.f3 = [partC c 0, partC c 1, partC c 2, partC c 3, partC c 4] := by
  have := five h5
  unfold partC
  simp only [if_pos h2]
  exact this
 have e0 := nrm_number (hx _ (hp 0 (by omega))) h6
 have e1 := nrm_number (hx _ (hp 1 (by omega))) h7
 have e2 := members_plain (hx _ (hp 2 (by omega))) (fun j => (hw (j + 1)).2.2.2.2 _ (hp 2 (by omega))) a e
 unfold topC
 rw [← e0, ← e1, ← e2, ← hl]
 exact hc
theorem top_parts {i t : Int} {l : List Int} {s u : Cel} : partC (topC i t l s u) 0 = numC i ∧ partC (topC i t l s u) 1 = numC t ∧ partC (topC i t l s u) 3 = s ∧ partC (topC i t l s u) 4 = u := ⟨rfl, rfl, rfl, rfl⟩
theorem loads_both (l0 : List Int) (hb : Bytes l0) : ∃ V : LdT, (V = errT ∨ ∃ (i t : Int) (l : List Int) (s u : Cel), V = okT i t l s u ∧ l.length ≤ 64 ∧ ((∃ d, dep d s = true) ∧ ∀ j, len j s) ∧ ((∃ d, dep d u = true) ∧ ∀ j, len j u)) ∧ Ev (fun k => snap_Load.f k l0) V ∧ Ev (fun k => minstrelref19_Load.f k l0) V := by
 obtain ⟨⟨x, n, e⟩, h1, h2, h3⟩ := first_eq l0 hb
 have hF : frame_First.f l0 = some (x, n, e) := by unfold frame_First.f; rw [h1]; rfl
 by_cases he : e = 0
 ·subst he
  obtain ⟨f1, f2, f3, f4, f5⟩ := first_ok h2
  have hbx : Bts x := fun y hy => by have := f5 y hy; omega
  obtain ⟨⟨c, e2⟩, g1, g2, g3, ⟨d, g4⟩, g5, g6⟩ := decode_both x hbx
  by_cases he2 : e2 = 0
  ·subst he2
   obtain ⟨hr, hw⟩ := g6 rfl
   obtain ⟨hwf, hsz, hln⟩ := rd_wf 65 0 x c [] hbx f4 hr
   have hlp := len_part hln
   have hnm := nrm_read hbx f4 hr hw
   have hok : SnapOk (partC c 0).f1 (partC c 1).f1 (partC c 3) (partC c 4) := by
    have hq : ∀ m, ((∀ j, wfc j (partC c m)) ∧ ∀ j, szc j (partC c m)) := part_all (P := fun y => (∀ j, wfc j y) ∧ ∀ j, szc j y) ⟨wfc_zero, szc_zero⟩ (fun y hy => ⟨fun j => (hwf (j + 1)).2.2.2.2 y hy, fun j => (hsz (j + 1)).2 y hy⟩)
    exact ⟨((hq 0).1 1).2.1, ((hq 1).1 1).2.1, (hq 3).1, (hq 4).1, (hq 3).2, (hq 4).2⟩
   have hdp : ∀ m, dep (d + 1) (partC c m) = true := part_all (P := fun y => dep (d + 1) y = true) rfl (fun y hy => by
    cases d with
    | zero => simp [dep] at g4
    | succ d =>
     rw [dep] at g4
     exact dep_le (List.all_eq_true.1 g4 y hy) (by omega))
   obtain ⟨i, hi⟩ : ∃ i, i = (partC c 0).f1 := ⟨_, rfl⟩
   obtain ⟨t, ht⟩ : ∃ t, t = (partC c 1).f1 := ⟨_, rfl⟩
   obtain ⟨l, hl⟩ : ∃ l, l = numsOf (partC c 2) := ⟨_, rfl⟩
   obtain ⟨s, hs⟩ : ∃ s, s = partC c 3 := ⟨_, rfl⟩
   obtain ⟨u, hu⟩ : ∃ u, u = partC c 4 := ⟨_, rfl⟩
   have hll : l.length ≤ 1048576 := by
    rw [hl]; unfold numsOf
    split
    ·rw [List.length_map]; exact (hlp 2).1
    ·exact Nat.zero_le _
   have hds := hdp 3
   have hdu := hdp 4
   rw [← hs] at hds
   rw [← hu] at hdu
   rw [← hi, ← ht, ← hs, ← hu] at hok
   obtain ⟨r, hr2⟩ := wrCell_some (d + 1 + 3) (topC i t l s u) 0 [] (dep_top hds hdu)
   have hr3 := wr_up (show d + 1 + 3 ≤ d + 70 + 1 by omega) hr2
   have hS := refSave_ev hok (by omega) hr3
   have hR : ∀ V, Ev (fun k => if (saveV i l r).2 = 0 then (if (strOfNums (saveV i l r).1).toList = (strOfNums l0).toList then some (okT i t l s u) else some errT) else some errT) V → Ev (fun k => minstrelref19_Load.f k l0) V := fun V hV => by
    delta minstrelref19_Load.f
    simp only [h2, Option.bind_some, if_true]
    refine Ev.bind g3 ?_
    have p0 : minstrelref19_part.f c.f0 c.f1 c.f2 c.f3 0 = _ := part_eq c 0
    have p1 : minstrelref19_part.f c.f0 c.f1 c.f2 c.f3 1 = _ := part_eq c 1
    have p2 : minstrelref19_part.f c.f0 c.f1 c.f2 c.f3 2 = _ := part_eq c 2
    have p3 : minstrelref19_part.f c.f0 c.f1 c.f2 c.f3 3 = _ := part_eq c 3
    have p4 : minstrelref19_part.f c.f0 c.f1 c.f2 c.f3 4 = _ := part_eq c 4
    rw [← hi] at p0
    rw [← ht] at p1
    rw [← hs] at p3
    rw [← hu] at p4
    simp only [if_true, p0, p1, p2, p3, p4, Option.bind_some]
    have hnm2 := numbers_ev (partC c 2) (hlp 2).1
    rw [← hl] at hnm2
    exact Ev.bind hnm2 (Ev.bind hS hV)
   by_cases hP : (saveV i l r).2 = 0 ∧ (saveV i l r).1 = l0
   ·obtain ⟨hP1, hP2⟩ := hP
    obtain ⟨k1, k2, k3, k4, k5⟩ := saveV_ok hP1
    obtain ⟨xs, e0⟩ := r
    obtain rfl : e0 = 0 := k3
    obtain ⟨kb, kl⟩ := wr_bytes hok k1 hr3
    have hfr : frameL xs = l0 := by rw [k5] at hP2; exact hP2
    have hx1 : xs.length ≤ 1048320 := by have k6 : ¬ (xs.length : Int) > 1048320 := k4; omega
    have hFF := First_frame kb kl
    rw [hfr, hF] at hFF
    have hxx : x = xs := (Prod.mk.inj (Option.some.inj hFF)).1
    subst hxx
    obtain ⟨eb, he, _, hwr⟩ := wr_read _ _ 0 [] x (wfc_top hok k1) hr3
    rw [List.nil_append] at he
    have hwh := hwr.whole []
    rw [List.append_nil, ← he] at hwh
    have hr9 := rd_up (show 65 ≤ d + 70 + 1 by omega) hr
    have hc : c = topC i t l (nrm (d + 70) s) (nrm (d + 70) u) := by
     have : some (nrm (d + 70 + 1) (topC i t l s u), ([] : List Int), (0 : Int)) = some (c, [], 0) := hwh.symm.trans hr9
     simp only [Option.some.injEq, Prod.mk.injEq, and_true] at this
     rw [nrm_top] at this
     exact this.symm
    have hs2 : s = nrm (d + 70) s := hs.trans (by rw [hc]; exact top_parts.2.2.1)
    have hu2 : u = nrm (d + 70) u := hu.trans (by rw [hc]; exact top_parts.2.2.2)
    rw [← hs2, ← hu2] at hc
    refine ⟨okT i t l s u, .inr ⟨i, t, l, s, u, rfl, (memB_facts k1).2.1, ⟨⟨_, hds⟩, by rw [hs]; exact (hlp 3).2⟩, ⟨_, hdu⟩, by rw [hu]; exact (hlp 4).2⟩, ?_, hR _ ?_⟩
    ·have g7 : Ev (fun k => code_Decode.f k x) (2, 0, ⟨#[]⟩, [numC i, numC t, membersC l, s, u], 0) := by
      have g8 := g2
      rw [hc] at g8
      exact g8
     have := load_top kb hx1 k1 k2 g7
     rw [hfr] at this
     exact this
    ·simp only [if_pos hP1, hP2, if_true]
     exact Ev.now _
   ·refine ⟨errT, .inl rfl, snap_err hF g2 (hlp 2).1 (fun _ hg => hP ?_), hR _ ?_⟩
    ·obtain ⟨ht1, ht2⟩ := good_top hg hnm hwf
     rw [← hi, ← ht, ← hl, ← hs, ← hu] at ht1
     rw [← hl] at ht2
     have hw2 := wr_up (show 65 ≤ d + 70 + 1 by omega) hw
     rw [ht1] at hw2
     have : r = (x, 0) := Option.some.inj (hr3.symm.trans hw2)
     obtain ⟨q1, q2, _, _, _, _, _, q3⟩ := hg
     rw [← hi] at q3
     subst this
     have hsv : saveV i l (x, 0) = (frameL x, 0) := by
      unfold saveV
      rw [if_pos ht2, if_neg q3, if_pos rfl, if_neg (by show ¬ (x.length : Int) > 1048320; omega)]
     rw [hsv]
     refine ⟨rfl, ?_⟩
     show frameL x = l0
     rw [f1, q2, Int.toNat_natCast, List.take_length]
    ·by_cases h0 : (saveV i l r).2 = 0
     ·have hne : ¬ (strOfNums (saveV i l r).1).toList = (strOfNums l0).toList := fun h => hP ⟨h0, by
       refine strOfNums_inj ?_ (fun y hy => by have := hb y hy; omega) (toList_inj h)
       obtain ⟨k1, k2, k3, k4, k5⟩ := saveV_ok h0
       obtain ⟨xs, e0⟩ := r
       obtain rfl : e0 = 0 := k3
       obtain ⟨kb, _⟩ := wr_bytes hok k1 hr3
       rw [k5]
       exact fun y hy => by have := bytes_frame kb y hy; omega⟩
      simp only [if_pos h0, if_neg hne]
      exact Ev.now _
     ·simp only [if_neg h0]
      exact Ev.now _
  ·refine ⟨errT, .inl rfl, snap_err hF g2 (by rw [show c = z26 from g1 he2]; exact Nat.zero_le _) (fun h => absurd h he2), ?_⟩
   delta minstrelref19_Load.f
   simp only [h2, Option.bind_some, if_true]
   refine Ev.bind g3 ?_
   simp only [if_neg he2]
   exact Ev.now _
 ·refine ⟨errT, .inl rfl, load_err hF he, ?_⟩
  ·delta minstrelref19_Load.f
   simp only [h2, Option.bind_some, if_neg he]
   exact Ev.now _
theorem SnapLoads (l0 : List Int) (hlen : l0.length ≤ maxLen) (h1 : l0.length * 1 ≤ 140737488351232) (hb : ∀ x ∈ l0, (Lit.int .u8 x).wf = true) : ∃ k, minstrellaw19_SnapLoads.f k l0 = some true := by
 apply Ev.rounds
 obtain ⟨V, hV, hS, hR⟩ := loads_both l0 (Bytes.of_wf hb)
 delta minstrellaw19_SnapLoads.f
 simp only [Option.bind_some, List.length_nil, List.nil_append, if_pos (show 0 + l0.length < 140737488355328 by omega)]
 refine Ev.bind hS (Ev.bind hR ?_)
 have same : ∀ {s : Cel}, (∃ d, dep d s = true) → (∀ j, len j s) → Ev (fun k => minstrelref07_Same.f k s.f0 s.f1 s.f2 s.f3 s.f0 s.f1 s.f2 s.f3) true := fun {s} ⟨d, hd⟩ hl => same_eq d s s true (hl d) (sameC_refl d s hd)
 have tail : Ev (fun k => if true = true then (minstrellaw19_lives.f k).bind fun t => some t else none) true := by
  simp only [if_true]
  exact Ev.bind lives_ev (Ev.now _)
 rcases hV with rfl | ⟨i, t, l, s, u, rfl, hl, ⟨hs1, hs2⟩, hu1, hu2⟩
 ·simp only [errT, if_true]
  refine Ev.bind (snaps_ev (i := 0) (t := 0) [] (Nat.zero_le _) (a := z26) (b := z26) (c := z26) (d := z26) ?_ ?_) tail
  ·exact same ⟨1, rfl⟩ (fun j => len_of_wfc j _ (wfc_zero j))
  ·exact same ⟨1, rfl⟩ (fun j => len_of_wfc j _ (wfc_zero j))
 ·simp only [okT, if_true]
  exact Ev.bind (snaps_ev l (by omega) (same hs1 hs2) (same hu1 hu2)) tail
end Go.Proofs.YtlkaffbgekbcfaaDoor.Pure
end
section
namespace Go.Proofs.YtlkaffbgekbcfaaDoor.Pr
open Go.ChangeShapes Go.WideShapes Go.RowKit Go.Proofs.YtlkaffbgekbcfaaDoorW.PrintWords Go.Proofs.YtlkaffbgekbcfaaDoorW.PrintLast Go.Proofs.YtlkaffbgekbcfaaDoorW.PrintMore
set_option maxRecDepth 100000
end Go.Proofs.YtlkaffbgekbcfaaDoor.Pr
end
