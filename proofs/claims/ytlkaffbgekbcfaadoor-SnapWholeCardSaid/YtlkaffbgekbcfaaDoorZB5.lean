/- A part of the proof of the law that RowSnapWhole shows: lemmas, and contracts of the calls that it reaches. -/
import Derived.Test.YtlkaffbgekbcfaaDoorProg
import Derived.Below
import Derived.Deep.Draws
import Derived.Deep.AppendLies
import Derived.Maps.AppendAt
import Derived.OwnWalk
import Derived.Laws.BytesArg
import Derived.Laws.MakeOwn
import Derived.Laws.OwnMore
import Derived.Deep.OwnRows
import Derived.Tactics
import Derived.Lib.ConvBytes
import Derived.Laws.Slices
import Derived.WalkKit
import Derived.KernelRfl
import Derived.RowKit3
import Derived.Deep.LoopGhost
import Derived.Deep.QuietTactic
import Derived.BigQuiet
import Derived.WideLaws
import Derived.Deep.DeepCutAuto
import Derived.Deep.CutBlock
import Derived.Deep.RegionHeld3
import Derived.Laws.Rows
import Derived.Lib.AppendStr
import Derived.ArgAppend
import Derived.Laws.IdiomCopy
import Derived.OrdersHeld
import Derived.Laws.BitsLemmas
import Derived.RowKit
import Derived.Test.YtlkaffbgekbcfaaDoorZB0
import Derived.Test.YtlkaffbgekbcfaaDoorZB1
import Derived.Test.YtlkaffbgekbcfaaDoorZB3
import Derived.Test.YtlkaffbgekbcfaaDoorZB4
section
namespace Go.Proofs.YtlkaffbgekbcfaaDoor.Pr
open Go.RowKit Go.Proofs.YtlkaffbgekbcfaaDoorW.PrintWords Go.Proofs.YtlkaffbgekbcfaaDoorW.PrintLast Go.Proofs.YtlkaffbgekbcfaaDoorW.PrintMore
attribute [local go_sem] max2_int min2_int max_two min_two max_three min_three max_four min_four
set_option linter.unusedVariables false
set_option linter.unusedSimpArgs false
def minstrelref19_Save.f (k : Nat) (a0_0 : Int) (a0_1 : Int) (l0_2 : List Int) (a0_3 : Int) (a0_4 : Int) (a0_5 : ByteArray) (l0_6 : List (S26)) (a0_7 : Int) (a0_8 : Int) (a0_9 : ByteArray) (l0_10 : List (S26)) : Option (List Int × Int) := (minstrelref19_Members.f k l0_2).bind fun t361 => (if t361 = true then (if a0_0 > 4611686018427387904 then (some (([] : List Int), 2)) else ((minstrelref07_Number.f a0_0).bind fun bt362 => ((minstrelref07_Number.f a0_1).bind fun bt368 => ((minstrelref19_members.f k l0_2).bind fun bt374 => ((minstrelref07_List.f (([(⟨bt362.1, bt362.2.1, bt362.2.2.1, bt362.2.2.2⟩ : S26), (⟨bt368.1, bt368.2.1, bt368.2.2.1, bt368.2.2.2⟩ : S26), (⟨bt374.1, bt374.2.1, bt374.2.2.1, bt374.2.2.2⟩ : S26), (⟨a0_3, a0_4, a0_5, l0_6⟩ : S26), (⟨a0_7, a0_8, a0_9, l0_10⟩ : S26)] : List (S26)))).bind fun bt383 => ((minstrelref07_Encode.f k bt383.1 bt383.2.1 bt383.2.2.1 bt383.2.2.2).bind fun bt389 => (if bt389.2 = 0 then (if (bt389.1.length : Int) > 1048320 then (some (([] : List Int), 2)) else ((minstrelref06_Frame.f k bt389.1).bind fun t393 => (some (t393, 0)))) else (some (([] : List Int), bt389.2))))))))) else (some (([] : List Int), 1)))
theorem minstrelref19_Save.mono : ∀ a0 a1 a2 a3 a4 a5 a6 a7 a8 a9 a10 k, LeO (minstrelref19_Save.f k a0 a1 a2 a3 a4 a5 a6 a7 a8 a9 a10) (minstrelref19_Save.f (k + 1) a0 a1 a2 a3 a4 a5 a6 a7 a8 a9 a10) := by
 intro a0 a1 a2 a3 a4 a5 a6 a7 a8 a9 a10 k
 unfold minstrelref19_Save.f
 repeat' first
   | (with_reducible exact minstrelref06_Frame.mono _ _)
   | (with_reducible exact minstrelref07_Encode.mono _ _ _ _ _)
   | (with_reducible exact minstrelref19_Members.mono _ _)
   | (with_reducible exact minstrelref19_members.mono _ _)
   | (with_reducible exact LeO.refl _)
   | (with_reducible exact LeO.none _)
   | (with_reducible refine LeO.ite ?_ ?_)
   | (with_reducible refine LeO.bind ?_ (fun _ => ?_))
   | exact minstrelref06_Frame.mono _ _
   | exact minstrelref07_Encode.mono _ _ _ _ _
   | exact minstrelref19_Members.mono _ _
   | exact minstrelref19_members.mono _ _
   | exact LeO.none _
   | refine LeO.ite ?_ ?_
   | refine LeO.bind ?_ (fun _ => ?_)
def minstrelref19_Save.T5 : Bool × List (List Nat × List Nat) := (true, [([], []), ([0], [0]), ([1], [1]), ([], []), ([3], [3]), ([4, 2], [4]), ([], []), ([6], [6]), ([7, 5], [7]), ([], []), ([9], [9]), ([], []), ([11], [11]), ([2, 5, 8, 10, 12], [2, 5, 8, 10, 12]), ([13, 8], [13]), ([14, 14], [14]), ([15], [15]), ([16], [16]), ([16], [16]), ([17, 15, 0, 1, 2, 3, 4, 5, 6, 7, 8, 9, 10, 11, 12, 13, 14, 15, 16, 17], [17]), ([18, 19, 0, 1, 2, 3, 4, 5, 6, 7, 8, 9, 10, 11, 12, 13, 14, 15, 16, 17, 18, 19], [18])])
def minstrelref19_Save.B5 : List Nat := [0, 1, 3, 0, 8, 31, 0, 64, 255, 0, 512, 0, 2048, 8191, 16383, 32767, 65535, 131071, 131071, 262143, 1048575]
theorem minstrelref19_Save.tab5 : rtab .any (opsOf Tryd.f11 5) = minstrelref19_Save.T5 := by kernel_rfl
theorem minstrelref19_Save.bits5 : waitsOk minstrelref19_Save.T5.2 minstrelref19_Save.B5 = true := by kernel_rfl
set_option maxHeartbeats 8000000 in
set_option maxRecDepth 100000 in
theorem minstrelref19_Save.calls (k : Nat) (a0_0 : Int) (a0_1 : Int) (A0_2 : Option Addr) (c0_2 : Nat) (l0_2 : List Int) (a0_3 : Int) (a0_4 : Int) (a0_5 : ByteArray) (P0_6_ : Nat → Prop) (A0_6 : Option Addr) (c0_6 : Nat) (l0_6 : List (S26)) (a0_7 : Int) (a0_8 : Int) (a0_9 : ByteArray) (P0_10_ : Nat → Prop) (A0_10 : Option Addr) (c0_10 : Nat) (l0_10 : List (S26)) (r1 : List Int) (r2 : Int) (w : World) (hr0_2 : Kd.C (Kd.int .i64) w A0_2 l0_2.length l0_2) (hc0_2 : l0_2.length ≤ c0_2) (hs0_6 : Kd.V k26 26 w w.heap.size (fun k_ => P0_6_ k_) (.slice A0_6 l0_6.length c0_6) l0_6) (hs0_10 : Kd.V k26 26 w w.heap.size (fun k_ => P0_10_ k_) (.slice A0_10 l0_10.length c0_10) l0_10) (h : minstrelref19_Save.f k a0_0 a0_1 l0_2 a0_3 a0_4 a0_5 l0_6 a0_7 a0_8 a0_9 l0_10 = some (r1, r2)) :
  Calls Tryd.prog 11 #[.agg #[.int .u64 a0_0, .int .u64 a0_1, .slice A0_2 l0_2.length c0_2, .int .i64 a0_3, .int .u64 a0_4, .string a0_5, .slice A0_6 l0_6.length c0_6, .int .i64 a0_7, .int .u64 a0_8, .string a0_9, .slice A0_10 l0_10.length c0_10]] w fun e w' => ∃ v0_ : Value, e = .returned (.tuple #[v0_, .int .i64 r2]) ∧ Kd.R (Kd.int .u8) 5 w' w.heap.size (fun k_ => (w.heap.size ≤ k_)) v0_ r1 ∧ Below w.heap.size w w' := by
 have hu28 := Tryd.underlying28
 have hu26 := Tryd.underlying26
 have HR0_2 := Aside0.mk hr0_2
 have HC0_2 := Aside0.mk hc0_2
 clear hr0_2 hc0_2
 have HO0_6 := Aside0.mk (show Kd.V k26 26 w w.heap.size (fun k_ => ((P0_6_ k_ ∨ P0_10_ k_) ∨ w.heap.size ≤ k_)) (.slice A0_6 l0_6.length c0_6) l0_6 from Kd.V_mono hs0_6 (fun k_ hk => .inl (.inl hk)))
 have HO0_10 := Aside0.mk (show Kd.V k26 26 w w.heap.size (fun k_ => ((P0_6_ k_ ∨ P0_10_ k_) ∨ w.heap.size ≤ k_)) (.slice A0_10 l0_10.length c0_10) l0_10 from Kd.V_mono hs0_10 (fun k_ hk => .inl (.inr hk)))
 have HB := Aside0.mk (Below.refl w.heap.size w)
 have H : ((minstrelref19_Members.f k l0_2).bind fun t361 => (if t361 = true then (if a0_0 > 4611686018427387904 then (some (([] : List Int), 2)) else ((minstrelref07_Number.f a0_0).bind fun bt362 => ((minstrelref07_Number.f a0_1).bind fun bt368 => ((minstrelref19_members.f k l0_2).bind fun bt374 => ((minstrelref07_List.f (([(⟨bt362.1, bt362.2.1, bt362.2.2.1, bt362.2.2.2⟩ : S26), (⟨bt368.1, bt368.2.1, bt368.2.2.1, bt368.2.2.2⟩ : S26), (⟨bt374.1, bt374.2.1, bt374.2.2.1, bt374.2.2.2⟩ : S26), (⟨a0_3, a0_4, a0_5, l0_6⟩ : S26), (⟨a0_7, a0_8, a0_9, l0_10⟩ : S26)] : List (S26)))).bind fun bt383 => ((minstrelref07_Encode.f k bt383.1 bt383.2.1 bt383.2.2.1 bt383.2.2.2).bind fun bt389 => (if bt389.2 = 0 then (if (bt389.1.length : Int) > 1048320 then (some (([] : List Int), 2)) else ((minstrelref06_Frame.f k bt389.1).bind fun t393 => (some (t393, 0)))) else (some (([] : List Int), bt389.2))))))))) else (some (([] : List Int), 1)))) = some (r1, r2) := h
 clear h
 replace H := Option.bind_eq_some_iff.mp H
 obtain ⟨t361, A20, H⟩ := H
 replace H : (if t361 = true then (if a0_0 > 4611686018427387904 then (some (([] : List Int), 2)) else ((minstrelref07_Number.f a0_0).bind fun bt362 => ((minstrelref07_Number.f a0_1).bind fun bt368 => ((minstrelref19_members.f k l0_2).bind fun bt374 => ((minstrelref07_List.f (([(⟨bt362.1, bt362.2.1, bt362.2.2.1, bt362.2.2.2⟩ : S26), (⟨bt368.1, bt368.2.1, bt368.2.2.1, bt368.2.2.2⟩ : S26), (⟨bt374.1, bt374.2.1, bt374.2.2.1, bt374.2.2.2⟩ : S26), (⟨a0_3, a0_4, a0_5, l0_6⟩ : S26), (⟨a0_7, a0_8, a0_9, l0_10⟩ : S26)] : List (S26)))).bind fun bt383 => ((minstrelref07_Encode.f k bt383.1 bt383.2.1 bt383.2.2.1 bt383.2.2.2).bind fun bt389 => (if bt389.2 = 0 then (if (bt389.1.length : Int) > 1048320 then (some (([] : List Int), 2)) else ((minstrelref06_Frame.f k bt389.1).bind fun t393 => (some (t393, 0)))) else (some (([] : List Int), bt389.2))))))))) else (some (([] : List Int), 1))) = some (r1, r2) := H
 have A2 := Aside0.mk A20
 clear A20
 by_cases c3 : t361 = true
 ·subst c3
  have H1 : (if a0_0 > 4611686018427387904 then (some (([] : List Int), 2)) else ((minstrelref07_Number.f a0_0).bind fun bt362 => ((minstrelref07_Number.f a0_1).bind fun bt368 => ((minstrelref19_members.f k l0_2).bind fun bt374 => ((minstrelref07_List.f (([(⟨bt362.1, bt362.2.1, bt362.2.2.1, bt362.2.2.2⟩ : S26), (⟨bt368.1, bt368.2.1, bt368.2.2.1, bt368.2.2.2⟩ : S26), (⟨bt374.1, bt374.2.1, bt374.2.2.1, bt374.2.2.2⟩ : S26), (⟨a0_3, a0_4, a0_5, l0_6⟩ : S26), (⟨a0_7, a0_8, a0_9, l0_10⟩ : S26)] : List (S26)))).bind fun bt383 => ((minstrelref07_Encode.f k bt383.1 bt383.2.1 bt383.2.2.1 bt383.2.2.2).bind fun bt389 => (if bt389.2 = 0 then (if (bt389.1.length : Int) > 1048320 then (some (([] : List Int), 2)) else ((minstrelref06_Frame.f k bt389.1).bind fun t393 => (some (t393, 0)))) else (some (([] : List Int), bt389.2))))))))) = some (r1, r2) := by rw [if_pos rfl] at H; exact H
  clear H
  have H := H1
  clear H1
  by_cases c4 : a0_0 > 4611686018427387904
  ·rw [if_pos c4] at H
   have c4b0 : decide (4611686018427387904 < a0_0) = true := decide_eq_true c4
   clear c4
   simp only [Option.some.injEq, Prod.mk.injEq] at H
   obtain ⟨rfl, rfl⟩ := H
   go_enter Tryd.func11, Tryd.ntmps11
   go_wp2_with (first | ((with_reducible refine gate_dst (N := 1) rfl ?_); refine box_event ?hg (N := 1) ?hd (cs := #[.int .u64 a0_0, .int .u64 a0_1, .slice A0_2 l0_2.length c0_2, .int .i64 a0_3, .int .u64 a0_4, .string a0_5, .slice A0_6 l0_6.length c0_6, .int .i64 a0_7, .int .u64 a0_8, .string a0_9, .slice A0_10 l0_10.length c0_10]) (t := 28) ?hr ?_; (case hd => rfl); (case hg => rfl); (case hr => first | (go_simp; done) | (go_simp; rfl)); intro gb360 hg w5 hbox hb; have n0_ := Aside0.mk (Kd.V_below (Kd.V_elderB (pV HO0_6.out) gb360 (Nat.le_of_eq hg.symm)) hb); have n1_ := Aside0.mk (Kd.V_below (Kd.V_elderB (pV HO0_10.out) gb360 (Nat.le_of_eq hg.symm)) hb); have n2_ := Aside0.mk (below_step pB hb); have n3_ := Aside0.mk (hbox); have n4_ := Aside0.mk ((by rw [hg]; exact (below_size pB) : w.heap.size ≤ gb360)); have n5_ := Aside0.mk ((by rw [hg]; exact (below_size pB) : w.heap.size ≤ gb360)); clear HO0_6; clear HO0_10; clear HB; have HO0_6 := n0_; have HO0_10 := n1_; have HB := n2_; have BK360 := n3_; have GW360 := n4_; have GE360 := n5_; clear n0_ n1_ n2_ n3_ n4_ n5_; clear hb hbox hg; obtain ⟨hcz6_0, hcz6_1, hcz6_2, hcz6_3, hcz6_4, hcz6_5, hcz6_6, hcz6_7, hcz6_8, hcz6_9, hcz6_10, hfz6_0, hfz6_1, hfz6_2, hfz6_3, hfz6_4, hfz6_5, hfz6_6, hfz6_7, hfz6_8, hfz6_9, hfz6_10⟩ := cf11 BK360.out) | ((with_reducible refine gate_callee (f := 13) rfl ?_); refine goesL_ (some 8) rfl rfl Tryd.func13 (by kernel_rfl) rfl #[.slice A0_2 l0_2.length c0_2] rfl pM ?_; (with_reducible refine (minstrelref19_Members.calls k _ _ l0_2 true _ ?side1 ?side2 A2.out).mono ?_); (case side1 => exact pC (Kd.C_below HR0_2.out HB.out)); (case side2 => exact HC0_2.out); rintro e w' ⟨rfl, ⟨nd, rfl⟩⟩; refine ⟨_, rfl, ?_⟩))
   go_ret2
   exact ⟨_, pE, pZ, pB⟩
  ·rw [if_neg c4] at H
   have c4b0 : decide (4611686018427387904 < a0_0) = false := decide_eq_false c4
   clear c4
   replace H := Option.bind_eq_some_iff.mp H
   obtain ⟨⟨t362, t363, t364, t365⟩, A70, H⟩ := H
   replace H : ((minstrelref07_Number.f a0_1).bind fun bt368 => ((minstrelref19_members.f k l0_2).bind fun bt374 => ((minstrelref07_List.f (([(⟨t362, t363, t364, t365⟩ : S26), (⟨bt368.1, bt368.2.1, bt368.2.2.1, bt368.2.2.2⟩ : S26), (⟨bt374.1, bt374.2.1, bt374.2.2.1, bt374.2.2.2⟩ : S26), (⟨a0_3, a0_4, a0_5, l0_6⟩ : S26), (⟨a0_7, a0_8, a0_9, l0_10⟩ : S26)] : List (S26)))).bind fun bt383 => ((minstrelref07_Encode.f k bt383.1 bt383.2.1 bt383.2.2.1 bt383.2.2.2).bind fun bt389 => (if bt389.2 = 0 then (if (bt389.1.length : Int) > 1048320 then (some (([] : List Int), 2)) else ((minstrelref06_Frame.f k bt389.1).bind fun t393 => (some (t393, 0)))) else (some (([] : List Int), bt389.2))))))) = some (r1, r2) := H
   have A7 := Aside0.mk A70
   clear A70
   replace H := Option.bind_eq_some_iff.mp H
   obtain ⟨⟨t368, t369, t370, t371⟩, A80, H⟩ := H
   replace H : ((minstrelref19_members.f k l0_2).bind fun bt374 => ((minstrelref07_List.f (([(⟨t362, t363, t364, t365⟩ : S26), (⟨t368, t369, t370, t371⟩ : S26), (⟨bt374.1, bt374.2.1, bt374.2.2.1, bt374.2.2.2⟩ : S26), (⟨a0_3, a0_4, a0_5, l0_6⟩ : S26), (⟨a0_7, a0_8, a0_9, l0_10⟩ : S26)] : List (S26)))).bind fun bt383 => ((minstrelref07_Encode.f k bt383.1 bt383.2.1 bt383.2.2.1 bt383.2.2.2).bind fun bt389 => (if bt389.2 = 0 then (if (bt389.1.length : Int) > 1048320 then (some (([] : List Int), 2)) else ((minstrelref06_Frame.f k bt389.1).bind fun t393 => (some (t393, 0)))) else (some (([] : List Int), bt389.2)))))) = some (r1, r2) := H
   have A8 := Aside0.mk A80
   clear A80
   replace H := Option.bind_eq_some_iff.mp H
   obtain ⟨⟨t374, t375, t376, t377⟩, A90, H⟩ := H
   replace H : ((minstrelref07_List.f (([(⟨t362, t363, t364, t365⟩ : S26), (⟨t368, t369, t370, t371⟩ : S26), (⟨t374, t375, t376, t377⟩ : S26), (⟨a0_3, a0_4, a0_5, l0_6⟩ : S26), (⟨a0_7, a0_8, a0_9, l0_10⟩ : S26)] : List (S26)))).bind fun bt383 => ((minstrelref07_Encode.f k bt383.1 bt383.2.1 bt383.2.2.1 bt383.2.2.2).bind fun bt389 => (if bt389.2 = 0 then (if (bt389.1.length : Int) > 1048320 then (some (([] : List Int), 2)) else ((minstrelref06_Frame.f k bt389.1).bind fun t393 => (some (t393, 0)))) else (some (([] : List Int), bt389.2))))) = some (r1, r2) := H
   have A9 := Aside0.mk A90
   clear A90
   obtain ⟨y380, hy380⟩ : ∃ y_ : List (S26), y_ = (([(⟨t362, t363, t364, t365⟩ : S26), (⟨t368, t369, t370, t371⟩ : S26), (⟨t374, t375, t376, t377⟩ : S26), (⟨a0_3, a0_4, a0_5, l0_6⟩ : S26), (⟨a0_7, a0_8, a0_9, l0_10⟩ : S26)] : List (S26))) := ⟨_, rfl⟩
   replace H : ((minstrelref07_List.f y380).bind fun bt383 => ((minstrelref07_Encode.f k bt383.1 bt383.2.1 bt383.2.2.1 bt383.2.2.2).bind fun bt389 => (if bt389.2 = 0 then (if (bt389.1.length : Int) > 1048320 then (some (([] : List Int), 2)) else ((minstrelref06_Frame.f k bt389.1).bind fun t393 => (some (t393, 0)))) else (some (([] : List Int), bt389.2))))) = some (r1, r2) := by first | (rw [hy380]; with_reducible exact H) | (have H2_ := (Option.bind_some _ _).symm.trans H; rw [hy380]; with_reducible exact H2_) | (have H2_ := (Option.bind_some _ _).symm.trans H; with_reducible exact H2_) | with_reducible exact H | (rw [hy380]; exact H) | exact H
   have Ny380 := Aside0.mk hy380
   clear hy380
   replace H := Option.bind_eq_some_iff.mp H
   obtain ⟨⟨t383, t384, t385, t386⟩, A100, H⟩ := H
   replace H : ((minstrelref07_Encode.f k t383 t384 t385 t386).bind fun bt389 => (if bt389.2 = 0 then (if (bt389.1.length : Int) > 1048320 then (some (([] : List Int), 2)) else ((minstrelref06_Frame.f k bt389.1).bind fun t393 => (some (t393, 0)))) else (some (([] : List Int), bt389.2)))) = some (r1, r2) := H
   have A10 := Aside0.mk A100
   clear A100
   replace H := Option.bind_eq_some_iff.mp H
   obtain ⟨⟨t389, t392⟩, A110, H⟩ := H
   replace H : (if t392 = 0 then (if (t389.length : Int) > 1048320 then (some (([] : List Int), 2)) else ((minstrelref06_Frame.f k t389).bind fun t393 => (some (t393, 0)))) else (some (([] : List Int), t392))) = some (r1, r2) := H
   have A11 := Aside0.mk A110
   clear A110
   by_cases c12 : t392 = 0
   ·rw [if_pos c12] at H
    have c12b0 : (t392 == 0) = true := beq_iff_eq.mpr c12
    have c12b1 : (t392 != 0) = false := bne_eq_false_iff_eq.mpr c12
    clear c12
    by_cases c13 : (t389.length : Int) > 1048320
    ·rw [if_pos c13] at H
     have c13b0 : decide (1048320 < (t389.length : Int)) = true := decide_eq_true c13
     have c13b1 : decide (1048320 < t389.length) = true := decide_eq_true (by omega)
     clear c13
     simp only [Option.some.injEq, Prod.mk.injEq] at H
     obtain ⟨rfl, rfl⟩ := H
     go_enter Tryd.func11, Tryd.ntmps11
     try go_wp2_with (first | ((with_reducible refine gate_dst (N := 1) rfl ?_); refine box_event ?hg (N := 1) ?hd (cs := #[.int .u64 a0_0, .int .u64 a0_1, .slice A0_2 l0_2.length c0_2, .int .i64 a0_3, .int .u64 a0_4, .string a0_5, .slice A0_6 l0_6.length c0_6, .int .i64 a0_7, .int .u64 a0_8, .string a0_9, .slice A0_10 l0_10.length c0_10]) (t := 28) ?hr ?_; (case hd => rfl); (case hg => rfl); (case hr => first | (go_simp; done) | (go_simp; rfl)); intro gb360 hg w14 hbox hb; have n0_ := Aside0.mk (Kd.V_below (Kd.V_elderB (pV HO0_6.out) gb360 (Nat.le_of_eq hg.symm)) hb); have n1_ := Aside0.mk (Kd.V_below (Kd.V_elderB (pV HO0_10.out) gb360 (Nat.le_of_eq hg.symm)) hb); have n2_ := Aside0.mk (below_step pB hb); have n3_ := Aside0.mk (hbox); have n4_ := Aside0.mk ((by rw [hg]; exact (below_size pB) : w.heap.size ≤ gb360)); have n5_ := Aside0.mk ((by rw [hg]; exact (below_size pB) : w.heap.size ≤ gb360)); clear HO0_6; clear HO0_10; clear HB; have HO0_6 := n0_; have HO0_10 := n1_; have HB := n2_; have BK360 := n3_; have GW360 := n4_; have GE360 := n5_; clear n0_ n1_ n2_ n3_ n4_ n5_; clear hb hbox hg; obtain ⟨hcz15_0, hcz15_1, hcz15_2, hcz15_3, hcz15_4, hcz15_5, hcz15_6, hcz15_7, hcz15_8, hcz15_9, hcz15_10, hfz15_0, hfz15_1, hfz15_2, hfz15_3, hfz15_4, hfz15_5, hfz15_6, hfz15_7, hfz15_8, hfz15_9, hfz15_10⟩ := cf11 BK360.out) | ((with_reducible refine gate_callee (f := 13) rfl ?_); refine goesL_ (some 8) rfl rfl Tryd.func13 (by kernel_rfl) rfl #[.slice A0_2 l0_2.length c0_2] rfl pM ?_; (with_reducible refine (minstrelref19_Members.calls k _ _ l0_2 true _ ?side1 ?side2 A2.out).mono ?_); (case side1 => exact pC (Kd.C_below HR0_2.out HB.out)); (case side2 => exact HC0_2.out); rintro e w' ⟨rfl, ⟨nd, rfl⟩⟩; refine ⟨_, rfl, ?_⟩))
     (try (rw [drewN_self w14]; generalize hq_ : World.drewN w14 _ = w14; have n0_ : Aside0 (Kd.V k26 26 w14 w.heap.size (fun k_ => ((P0_6_ k_ ∨ P0_10_ k_) ∨ w.heap.size ≤ k_) ∧ k_ ≠ gb360) (.slice A0_10 l0_10.length c0_10) l0_10) := ⟨by rw [← hq_]; exact (pV HO0_10.out)⟩; have n1_ : Aside0 (Kd.V k26 26 w14 w.heap.size (fun k_ => ((P0_6_ k_ ∨ P0_10_ k_) ∨ w.heap.size ≤ k_) ∧ k_ ≠ gb360) (.slice A0_6 l0_6.length c0_6) l0_6) := ⟨by rw [← hq_]; exact (pV HO0_6.out)⟩; have n2_ : Aside0 (w14.heap[gb360]? = some (.cells #[.int .u64 a0_0, .int .u64 a0_1, .slice A0_2 l0_2.length c0_2, .int .i64 a0_3, .int .u64 a0_4, .string a0_5, .slice A0_6 l0_6.length c0_6, .int .i64 a0_7, .int .u64 a0_8, .string a0_9, .slice A0_10 l0_10.length c0_10] 28 (0, 0))) := ⟨by rw [← hq_]; exact (pK BK360.out)⟩; have n3_ : Aside0 (Below w.heap.size w w14) := ⟨by rw [← hq_]; exact pB⟩; clear HO0_10 HO0_6 BK360 HB hq_; have HO0_10 := n0_; have HO0_6 := n1_; have BK360 := n2_; have HB := n3_; clear n0_ n1_ n2_ n3_))
     have n0_ := Aside0.mk (Kd.V_drew HO0_6.out)
     have n1_ := Aside0.mk (Kd.V_drew HO0_10.out)
     have n2_ := Aside0.mk (blk_drew BK360.out)
     have n3_ := Aside0.mk (below_drew1 HB.out)
     clear HO0_6 HO0_10 BK360 HB; have HO0_6 := n0_; have HO0_10 := n1_; have BK360 := n2_; have HB := n3_; clear n0_ n1_ n2_ n3_
     refine start_ (n := 21) (S := fun w' => w'.cell? ⟨gb360, 0, none⟩ = some (.int .u64 a0_0) ∧ w'.cell? ⟨gb360, 1, none⟩ = some (.int .u64 a0_1) ∧ w'.cell? ⟨gb360, 2, none⟩ = some (.slice A0_2 l0_2.length c0_2) ∧ w'.cell? ⟨gb360, 3, none⟩ = some (.int .i64 a0_3) ∧ w'.cell? ⟨gb360, 4, none⟩ = some (.int .u64 a0_4) ∧ w'.cell? ⟨gb360, 5, none⟩ = some (.string a0_5) ∧ w'.cell? ⟨gb360, 6, none⟩ = some (.slice A0_6 l0_6.length c0_6) ∧ w'.cell? ⟨gb360, 7, none⟩ = some (.int .i64 a0_7) ∧ w'.cell? ⟨gb360, 8, none⟩ = some (.int .u64 a0_8) ∧ w'.cell? ⟨gb360, 9, none⟩ = some (.string a0_9) ∧ w'.cell? ⟨gb360, 10, none⟩ = some (.slice A0_10 l0_10.length c0_10)) (ds := []) #[false, false, false, false, false, false, false, false, false, false, false, false, false, false, false, false, false, false, false, false, false] (by kernel_rfl) rfl rfl ⟨cz0 BK360.out, cz1 BK360.out, cz2 BK360.out, cz3 BK360.out, cz4 BK360.out, cz5 BK360.out, cz6 BK360.out, cz7 BK360.out, cz8 BK360.out, cz9 BK360.out, cz10 BK360.out⟩ (fun hHeld => ?_); refine with_tabW minstrelref19_Save.tab5 minstrelref19_Save.bits5 (fun HT_ HW_ => ?_)
     generalize w14.drew = w16 at HO0_6 HO0_10 BK360 HB hHeld ⊢
     refine pure_ (i := 0) (N := some 14) (v := ?_) (a' := ?_) #[true, false, false, false, false, false, false, false, false, false, false, false, false, false, false, false, false, false, false, false, false] rfl rfl (any_of HT_.out (by kernel_rfl)) (fun _ _ _ h => h) (Or.inl ⟨by kernel_rfl, ?_⟩) ?_ ?_
     rotate_left
     ·intro w'
      go_simp
      with_reducible rfl
     rotate_left
     ·exact pA
     refine pure_ (i := 3) (N := some 17) (v := ?_) (a' := ?_) #[true, false, false, true, false, false, false, false, false, false, false, false, false, false, false, false, false, false, false, false, false] rfl rfl (any_of HT_.out (by kernel_rfl)) (fun _ _ _ h => h) (Or.inl ⟨by kernel_rfl, ?_⟩) ?_ ?_
     rotate_left
     ·intro w'
      go_simp
      with_reducible rfl
     rotate_left
     ·exact pA
     refine pure_ (i := 6) (N := some 20) (v := ?_) (a' := ?_) #[true, false, false, true, false, false, true, false, false, false, false, false, false, false, false, false, false, false, false, false, false] rfl rfl (any_of HT_.out (by kernel_rfl)) (fun _ _ _ h => h) (Or.inl ⟨by kernel_rfl, ?_⟩) ?_ ?_
     rotate_left
     ·intro w'
      go_simp
      with_reducible rfl
     rotate_left
     ·exact pA
     refine pure_ (i := 9) (N := some 23) (v := ?_) (a' := ?_) #[true, false, false, true, false, false, true, false, false, true, false, false, false, false, false, false, false, false, false, false, false] rfl rfl (any_of HT_.out (by kernel_rfl)) (fun _ _ _ h => h) (Or.inl ⟨by kernel_rfl, ?_⟩) ?_ ?_
     rotate_left
     ·intro w'
      go_simp
      with_reducible rfl
     rotate_left
     ·exact pA
     refine pure_ (i := 11) (N := some 25) (v := ?_) (a' := ?_) #[true, false, false, true, false, false, true, false, false, true, false, true, false, false, false, false, false, false, false, false, false] rfl rfl (any_of HT_.out (by kernel_rfl)) (fun _ _ _ h => h) (Or.inl ⟨by kernel_rfl, ?_⟩) ?_ ?_
     rotate_left
     ·intro w'
      go_simp
      with_reducible rfl
     rotate_left
     ·exact pA
     refine take_ (i := 1) (N := some 15) (v := ?_) (a' := ?_) #[true, true, false, true, false, false, true, false, false, true, false, true, false, false, false, false, false, false, false, false, false] rfl rfl (take_ofW HT_.out HW_.out (by kernel_rfl)) (fun _ _ _ h => h) (Or.inl ⟨by kernel_rfl, ?_⟩) hHeld ?_ ?_
     rotate_left
     ·rintro w' ⟨s0, s1, s2, s3, s4, s5, s6, s7, s8, s9, s10⟩
      go_simp
      with_reducible rfl
     rotate_left
     ·exact pA
     refine take_ (i := 4) (N := some 18) (v := ?_) (a' := ?_) #[true, true, false, true, true, false, true, false, false, true, false, true, false, false, false, false, false, false, false, false, false] rfl rfl (take_ofW HT_.out HW_.out (by kernel_rfl)) (fun _ _ _ h => h) (Or.inl ⟨by kernel_rfl, ?_⟩) hHeld ?_ ?_
     rotate_left
     ·rintro w' ⟨s0, s1, s2, s3, s4, s5, s6, s7, s8, s9, s10⟩
      go_simp
      with_reducible rfl
     rotate_left
     ·exact pA
     refine take_ (i := 7) (N := some 21) (v := ?_) (a' := ?_) #[true, true, false, true, true, false, true, true, false, true, false, true, false, false, false, false, false, false, false, false, false] rfl rfl (take_ofW HT_.out HW_.out (by kernel_rfl)) (fun _ _ _ h => h) (Or.inl ⟨by kernel_rfl, ?_⟩) hHeld ?_ ?_
     rotate_left
     ·rintro w' ⟨s0, s1, s2, s3, s4, s5, s6, s7, s8, s9, s10⟩
      go_simp
      with_reducible rfl
     rotate_left
     ·exact pA
     refine take_ (i := 10) (N := some 24) (v := ?_) (a' := ?_) #[true, true, false, true, true, false, true, true, false, true, true, true, false, false, false, false, false, false, false, false, false] rfl rfl (take_ofW HT_.out HW_.out (by kernel_rfl)) (fun _ _ _ h => h) (Or.inl ⟨by kernel_rfl, ?_⟩) hHeld ?_ ?_
     rotate_left
     ·rintro w' ⟨s0, s1, s2, s3, s4, s5, s6, s7, s8, s9, s10⟩
      go_simp
      with_reducible rfl
     rotate_left
     ·exact pA
     refine take_ (i := 12) (N := some 26) (v := ?_) (a' := ?_) #[true, true, false, true, true, false, true, true, false, true, true, true, true, false, false, false, false, false, false, false, false] rfl rfl (take_ofW HT_.out HW_.out (by kernel_rfl)) (fun _ _ _ h => h) (Or.inl ⟨by kernel_rfl, ?_⟩) hHeld ?_ ?_
     rotate_left
     ·rintro w' ⟨s0, s1, s2, s3, s4, s5, s6, s7, s8, s9, s10⟩
      go_simp
      with_reducible rfl
     rotate_left
     ·exact pA
     refine one_ (i := 2) (N := some 16) #[true, true, true, true, true, false, true, true, false, true, true, true, true, false, false, false, false, false, false, false, false] rfl rfl (one_of HT_.out (by kernel_rfl)) (by decide) (fun K hK => ?_)
     refine goes_ Tryd.func33 (by kernel_rfl) rfl #[.int .u64 a0_0] (by rfl) rfl rfl pM ?_
     with_reducible refine (minstrelref07_Number.calls a0_0 t362 t363 t364 t365 _ A7.out).mono ?_
     rintro e w17 ⟨v366, rfl, ho0, hb⟩
     refine ⟨_, rfl, ?_⟩
     have n0_ := Aside0.mk (Kd.V_elder' (pV HO0_6.out) (by first | exact Kd.R_base ho0 | exact Kd.N_base ho0) hb)
     have n1_ := Aside0.mk (Kd.V_elder' (pV HO0_10.out) (by first | exact Kd.R_base ho0 | exact Kd.N_base ho0) hb)
     have n2_ := Aside0.mk (Kd.N_lower (Kd.N_mono (ok' := fun k_ => ((P0_6_ k_ ∨ P0_10_ k_) ∨ w.heap.size ≤ k_) ∧ k_ ≠ gb360) (Kd.R_N (Kd.R_bound ho0)) (fun k_ hk_ => ⟨(.inr (Nat.le_trans (below_size pB) hk_.2.1)), (Kd.freshB (g := gb360) (o := .cells #[.int .u64 a0_0, .int .u64 a0_1, .slice A0_2 l0_2.length c0_2, .int .i64 a0_3, .int .u64 a0_4, .string a0_5, .slice A0_6 l0_6.length c0_6, .int .i64 a0_7, .int .u64 a0_8, .string a0_9, .slice A0_10 l0_10.length c0_10] 28 (0, 0)) (pK BK360.out) k_ hk_.2.1)⟩)) (below_size pB))
     have n3_ := Aside0.mk (pkb BK360.out hb)
     have n4_ := Aside0.mk (below_step pB hb)
     clear HO0_6 HO0_10 BK360 HB; have HO0_6 := n0_; have HO0_10 := n1_; have HO367 := n2_; have BK360 := n3_; have HB := n4_; clear n0_ n1_ n2_ n3_ n4_; (try clear hb); (try clear hb2); (try clear hk); (try clear hi); (try clear ho0)
     refine hK.out _ _ ⟨cz0 BK360.out, cz1 BK360.out, cz2 BK360.out, cz3 BK360.out, cz4 BK360.out, cz5 BK360.out, cz6 BK360.out, cz7 BK360.out, cz8 BK360.out, cz9 BK360.out, cz10 BK360.out⟩ (fun hHeld => ?_)
     clear hK K
     refine norm_ (a' := ?_) ?_ ?_
     rotate_left
     ·show Act.put _ (some 16) _ = _
      exact pA
     refine one_ (i := 5) (N := some 19) #[true, true, true, true, true, true, true, true, false, true, true, true, true, false, false, false, false, false, false, false, false] rfl rfl (one_of HT_.out (by kernel_rfl)) (by decide) (fun K hK => ?_)
     refine goes_ Tryd.func33 (by kernel_rfl) rfl #[.int .u64 a0_1] (by rfl) rfl rfl pM ?_
     with_reducible refine (minstrelref07_Number.calls a0_1 t368 t369 t370 t371 _ A8.out).mono ?_
     rintro e w18 ⟨v372, rfl, ho0, hb⟩
     refine ⟨_, rfl, ?_⟩
     have n0_ := Aside0.mk (Kd.V_elder' (pV HO0_6.out) (by first | exact Kd.R_base ho0 | exact Kd.N_base ho0) hb)
     have n1_ := Aside0.mk (Kd.V_elder' (pV HO0_10.out) (by first | exact Kd.R_base ho0 | exact Kd.N_base ho0) hb)
     have n2_ := Aside0.mk (Kd.N_elder' (pN HO367.out) (by first | exact Kd.R_base ho0 | exact Kd.N_base ho0) hb)
     have n3_ := Aside0.mk (Kd.N_lower (Kd.N_mono (ok' := fun k_ => ((P0_6_ k_ ∨ P0_10_ k_) ∨ w.heap.size ≤ k_) ∧ some k_ ≠ (v366 : Value).ownBlock ∧ k_ ≠ gb360) (Kd.R_N (Kd.R_bound ho0)) (fun k_ hk_ => ⟨(.inr (Nat.le_trans (below_size pB) hk_.2.1)), (Kd.fresh' (Kd.N_lt (pN HO367.out)) k_ hk_.2.1), (Kd.freshB (g := gb360) (o := .cells #[.int .u64 a0_0, .int .u64 a0_1, .slice A0_2 l0_2.length c0_2, .int .i64 a0_3, .int .u64 a0_4, .string a0_5, .slice A0_6 l0_6.length c0_6, .int .i64 a0_7, .int .u64 a0_8, .string a0_9, .slice A0_10 l0_10.length c0_10] 28 (0, 0)) (pK BK360.out) k_ hk_.2.1)⟩)) (below_size pB))
     have n4_ := Aside0.mk (pkb BK360.out hb)
     have n5_ := Aside0.mk (below_step pB hb)
     clear HO0_6 HO0_10 HO367 BK360 HB; have HO0_6 := n0_; have HO0_10 := n1_; have HO367 := n2_; have HO373 := n3_; have BK360 := n4_; have HB := n5_; clear n0_ n1_ n2_ n3_ n4_ n5_; (try clear hb); (try clear hb2); (try clear hk); (try clear hi); (try clear ho0)
     refine hK.out _ _ ⟨cz0 BK360.out, cz1 BK360.out, cz2 BK360.out, cz3 BK360.out, cz4 BK360.out, cz5 BK360.out, cz6 BK360.out, cz7 BK360.out, cz8 BK360.out, cz9 BK360.out, cz10 BK360.out⟩ (fun hHeld => ?_)
     clear hK K
     refine norm_ (a' := ?_) ?_ ?_
     rotate_left
     ·show Act.put _ (some 19) _ = _
      exact pA
     refine one_ (i := 8) (N := some 22) #[true, true, true, true, true, true, true, true, true, true, true, true, true, false, false, false, false, false, false, false, false] rfl rfl (one_of HT_.out (by kernel_rfl)) (by decide) (fun K hK => ?_)
     refine goes_ Tryd.func34 (by kernel_rfl) rfl #[.slice A0_2 l0_2.length c0_2] (by rfl) rfl rfl pM ?_
     with_reducible refine (minstrelref19_members.calls k _ _ l0_2 t374 t375 t376 t377 _ ?side1 ?side2 A9.out).mono ?_
     (case side1 => exact pC (Kd.C_below HR0_2.out HB.out))
     (case side2 => exact HC0_2.out)
     rintro e w19 ⟨v378, rfl, ho0, hb⟩
     refine ⟨_, rfl, ?_⟩
     have n0_ := Aside0.mk (Kd.V_below (pV HO0_6.out) hb)
     have n1_ := Aside0.mk (Kd.V_below (pV HO0_10.out) hb)
     have n2_ := Aside0.mk (Kd.N_below (pN HO367.out) hb)
     have n3_ := Aside0.mk (Kd.N_below (pN HO373.out) hb)
     have n4_ := Aside0.mk (Kd.V_lower (Kd.V_mono (ok' := fun k_ => ((P0_6_ k_ ∨ P0_10_ k_) ∨ w.heap.size ≤ k_) ∧ some k_ ≠ (v366 : Value).ownBlock ∧ some k_ ≠ (v372 : Value).ownBlock ∧ k_ ≠ gb360) ho0 (fun k_ hk_ => ⟨(.inr (Nat.le_trans (below_size pB) hk_)), (Kd.fresh' (Kd.N_lt (pN HO367.out)) k_ hk_), (Kd.fresh' (Kd.N_lt (pN HO373.out)) k_ hk_), (Kd.freshB (g := gb360) (o := .cells #[.int .u64 a0_0, .int .u64 a0_1, .slice A0_2 l0_2.length c0_2, .int .i64 a0_3, .int .u64 a0_4, .string a0_5, .slice A0_6 l0_6.length c0_6, .int .i64 a0_7, .int .u64 a0_8, .string a0_9, .slice A0_10 l0_10.length c0_10] 28 (0, 0)) (pK BK360.out) k_ hk_)⟩)) (below_size pB))
     have n5_ := Aside0.mk (pkb BK360.out hb)
     have n6_ := Aside0.mk (below_step pB hb)
     clear HO0_6 HO0_10 HO367 HO373 BK360 HB; have HO0_6 := n0_; have HO0_10 := n1_; have HO367 := n2_; have HO373 := n3_; have HO379 := n4_; have BK360 := n5_; have HB := n6_; clear n0_ n1_ n2_ n3_ n4_ n5_ n6_; (try clear hb); (try clear hb2); (try clear hk); (try clear hi); (try clear ho0)
     obtain ⟨Ao20, co20, eo20⟩ := Kd.N_slice HO367.out
     (first | subst eo20 | (injection eo20 with f1_ f2_ f3_; have f4_ := f1_.symm; have f5_ := f3_.symm; clear f1_ f2_ f3_; subst f4_; subst f5_))
     obtain ⟨Ao21, co21, eo21⟩ := Kd.N_slice HO373.out
     (first | subst eo21 | (injection eo21 with f1_ f2_ f3_; have f4_ := f1_.symm; have f5_ := f3_.symm; clear f1_ f2_ f3_; subst f4_; subst f5_))
     obtain ⟨Ao22, co22, eo22⟩ := Kd.V_slice HO379.out
     (first | subst eo22 | (injection eo22 with f1_ f2_ f3_; have f4_ := f1_.symm; have f5_ := f3_.symm; clear f1_ f2_ f3_; subst f4_; subst f5_))
     refine hK.out _ _ ⟨cz0 BK360.out, cz1 BK360.out, cz2 BK360.out, cz3 BK360.out, cz4 BK360.out, cz5 BK360.out, cz6 BK360.out, cz7 BK360.out, cz8 BK360.out, cz9 BK360.out, cz10 BK360.out⟩ (fun hHeld => ?_)
     clear hK K
     refine norm_ (a' := ?_) ?_ ?_
     rotate_left
     ·show Act.put _ (some 22) _ = _
      exact pA
     refine one_ (i := 13) (N := some 27) #[true, true, true, true, true, true, true, true, true, true, true, true, true, true, false, false, false, false, false, false, false] rfl rfl (one_of HT_.out (by kernel_rfl)) (by decide) (fun K hK => ?_)
     refine Kd.N_lit_step k26 _ 26 ?hg (N' := 27) ?hd (xs := ([(⟨t362, t363, t364, t365⟩ : S26), (⟨t368, t369, t370, t371⟩ : S26), (⟨t374, t375, t376, t377⟩ : S26), (⟨a0_3, a0_4, a0_5, l0_6⟩ : S26), (⟨a0_7, a0_8, a0_9, l0_10⟩ : S26)] : List (S26))) (inner := [.int .i64 t362, .int .u64 t363, .string t364, .slice Ao20 t365.length co20, .int .i64 t368, .int .u64 t369, .string t370, .slice Ao21 t371.length co21, .int .i64 t374, .int .u64 t375, .string t376, .slice Ao22 t377.length co22, .int .i64 a0_3, .int .u64 a0_4, .string a0_5, .slice A0_6 l0_6.length c0_6, .int .i64 a0_7, .int .u64 a0_8, .string a0_9, .slice A0_10 l0_10.length c0_10]) (ok := (fun k_ => ((P0_6_ k_ ∨ P0_10_ k_) ∨ w.heap.size ≤ k_) ∧ k_ ≠ gb360)) (okp := (fun k_ => ((P0_6_ k_ ∨ P0_10_ k_) ∨ w.heap.size ≤ k_) ∧ k_ ≠ gb360)) ?hr ?hp (fun _ hk => hk) ((show ∀ k_, w19.heap.size ≤ k_ → (fun k_ => ((P0_6_ k_ ∨ P0_10_ k_) ∨ w.heap.size ≤ k_) ∧ k_ ≠ gb360) k_ from fun k_ hk => ⟨(.inr (Nat.le_trans (below_size pB) hk)), Kd.freshB (g := gb360) (o := .cells #[.int .u64 a0_0, .int .u64 a0_1, .slice A0_2 l0_2.length c0_2, .int .i64 a0_3, .int .u64 a0_4, .string a0_5, .slice A0_6 l0_6.length c0_6, .int .i64 a0_7, .int .u64 a0_8, .string a0_9, .slice A0_10 l0_10.length c0_10] 28 (0, 0)) (pK BK360.out) k_ hk⟩) _ (Nat.le_refl _)) (Below.refl _ _) (Nat.le_refl _) (by simp) ?_; (case hd => rfl); (case hg => rfl); (case hr => first | (go_simp; done) | (go_simp; rfl)); (case hp => exact (Reps.c4 (show Kd.FK k26 _ _ (⟨t362, t363, t364, t365⟩ : S26) [.int .i64 t362, .int .u64 t363, .string t364, .slice Ao20 t365.length co20] from (k26_mkF _ _ (⟨t362, t363, t364, t365⟩ : S26) (Kd.N_reads' (Kd.N_mono (ok' := (fun k_ => ((P0_6_ k_ ∨ P0_10_ k_) ∨ w.heap.size ≤ k_) ∧ k_ ≠ gb360)) (HO367.out) (fun k_ hk => ⟨hk.1.1, hk.1.2⟩))).2.1 (Kd.N_F (Kd.N_mono (ok' := (fun k_ => ((P0_6_ k_ ∨ P0_10_ k_) ∨ w.heap.size ≤ k_) ∧ k_ ≠ gb360)) (HO367.out) (fun k_ hk => ⟨hk.1.1, hk.1.2⟩))))) (Reps.c4 (show Kd.FK k26 _ _ (⟨t368, t369, t370, t371⟩ : S26) [.int .i64 t368, .int .u64 t369, .string t370, .slice Ao21 t371.length co21] from (k26_mkF _ _ (⟨t368, t369, t370, t371⟩ : S26) (Kd.N_reads' (Kd.N_mono (ok' := (fun k_ => ((P0_6_ k_ ∨ P0_10_ k_) ∨ w.heap.size ≤ k_) ∧ k_ ≠ gb360)) (HO373.out) (fun k_ hk => ⟨hk.1, hk.2.2⟩))).2.1 (Kd.N_F (Kd.N_mono (ok' := (fun k_ => ((P0_6_ k_ ∨ P0_10_ k_) ∨ w.heap.size ≤ k_) ∧ k_ ≠ gb360)) (HO373.out) (fun k_ hk => ⟨hk.1, hk.2.2⟩))))) (Reps.c4 (show Kd.FK k26 _ _ (⟨t374, t375, t376, t377⟩ : S26) [.int .i64 t374, .int .u64 t375, .string t376, .slice Ao22 t377.length co22] from (k26_mkF _ _ (⟨t374, t375, t376, t377⟩ : S26) (Kd.V_reads' (Kd.V_mono (ok' := (fun k_ => ((P0_6_ k_ ∨ P0_10_ k_) ∨ w.heap.size ≤ k_) ∧ k_ ≠ gb360)) (HO379.out) (fun k_ hk => ⟨hk.1, hk.2.2.2⟩))).2.1 (Kd.V_F (Kd.V_mono (ok' := (fun k_ => ((P0_6_ k_ ∨ P0_10_ k_) ∨ w.heap.size ≤ k_) ∧ k_ ≠ gb360)) (HO379.out) (fun k_ hk => ⟨hk.1, hk.2.2.2⟩))))) (Reps.c4 (show Kd.FK k26 _ _ (⟨a0_3, a0_4, a0_5, l0_6⟩ : S26) [.int .i64 a0_3, .int .u64 a0_4, .string a0_5, .slice A0_6 l0_6.length c0_6] from (k26_mkF _ _ (⟨a0_3, a0_4, a0_5, l0_6⟩ : S26) (Kd.V_reads' (Kd.V_mono (ok' := (fun k_ => ((P0_6_ k_ ∨ P0_10_ k_) ∨ w.heap.size ≤ k_) ∧ k_ ≠ gb360)) (HO0_6.out) (fun k_ hk => ⟨hk.1.1.1, hk.1.1.2⟩))).2.1 (Kd.V_F (Kd.V_mono (ok' := (fun k_ => ((P0_6_ k_ ∨ P0_10_ k_) ∨ w.heap.size ≤ k_) ∧ k_ ≠ gb360)) (HO0_6.out) (fun k_ hk => ⟨hk.1.1.1, hk.1.1.2⟩))))) (Reps.c4 (show Kd.FK k26 _ _ (⟨a0_7, a0_8, a0_9, l0_10⟩ : S26) [.int .i64 a0_7, .int .u64 a0_8, .string a0_9, .slice A0_10 l0_10.length c0_10] from (k26_mkF _ _ (⟨a0_7, a0_8, a0_9, l0_10⟩ : S26) (Kd.V_reads' (Kd.V_mono (ok' := (fun k_ => ((P0_6_ k_ ∨ P0_10_ k_) ∨ w.heap.size ≤ k_) ∧ k_ ≠ gb360)) (HO0_10.out) (fun k_ hk => ⟨hk.1.1.1, hk.1.1.2⟩))).2.1 (Kd.V_F (Kd.V_mono (ok' := (fun k_ => ((P0_6_ k_ ∨ P0_10_ k_) ∨ w.heap.size ≤ k_) ∧ k_ ≠ gb360)) (HO0_10.out) (fun k_ hk => ⟨hk.1.1.1, hk.1.1.2⟩))))) (Reps.none _ _)))))))
     intro v381 w23 ho24 hb hg_ hnew_
     clear hg_ hnew_
     (first | rw [← Ny380.out] at ho24 | (simp only [Int.reduceToNat] at ho24; rw [← Ny380.out] at ho24))
     have n0_ := Aside0.mk (Kd.V_elder' (pV HO0_6.out) (by first | exact Kd.R_base ho24 | exact Kd.N_base ho24) hb)
     have n1_ := Aside0.mk (Kd.V_elder' (pV HO0_10.out) (by first | exact Kd.R_base ho24 | exact Kd.N_base ho24) hb)
     have n2_ := Aside0.mk (Kd.V_elder' (pV HO379.out) (by first | exact Kd.R_base ho24 | exact Kd.N_base ho24) hb)
     have n3_ := Aside0.mk (Kd.N_lower ho24 (below_size pB))
     have n4_ := Aside0.mk (pkb BK360.out hb)
     have n5_ := Aside0.mk (below_step pB hb)
     clear HO0_6 HO0_10 HO379 BK360 HB HO367 HO373; have HO0_6 := n0_; have HO0_10 := n1_; have HO379 := n2_; have HO382 := n3_; have BK360 := n4_; have HB := n5_; clear n0_ n1_ n2_ n3_ n4_ n5_ hb ho24
     obtain ⟨Ao25, co25, eo25⟩ := Kd.N_slice HO382.out
     (first | subst eo25 | (injection eo25 with f1_ f2_ f3_; have f4_ := f1_.symm; have f5_ := f3_.symm; clear f1_ f2_ f3_; subst f4_; subst f5_))
     refine hK.out _ _ ⟨cz0 BK360.out, cz1 BK360.out, cz2 BK360.out, cz3 BK360.out, cz4 BK360.out, cz5 BK360.out, cz6 BK360.out, cz7 BK360.out, cz8 BK360.out, cz9 BK360.out, cz10 BK360.out⟩ (fun hHeld => ?_)
     clear hK K
     refine norm_ (a' := ?_) ?_ ?_
     rotate_left
     ·show Act.put _ (some 27) _ = _
      exact pA
     refine one_ (i := 14) (N := some 28) #[true, true, true, true, true, true, true, true, true, true, true, true, true, true, true, false, false, false, false, false, false] rfl rfl (one_of HT_.out (by kernel_rfl)) (by decide) (fun K hK => ?_)
     refine goes_ Tryd.func32 (by kernel_rfl) rfl #[.slice Ao25 y380.length co25] (by rfl) rfl rfl pM ?_
     with_reducible refine (minstrelref07_List.calls (fun k_ => (((P0_6_ k_ ∨ P0_10_ k_) ∨ w.heap.size ≤ k_) ∧ k_ ≠ gb360)) _ _ y380 t383 t384 t385 t386 _ ?side1 A10.out).mono ?_
     (case side1 => exact Kd.N_V (HO382.out))
     rintro e w26 ⟨v387, rfl, ho0, hb⟩
     refine ⟨_, rfl, ?_⟩
     have n0_ := Aside0.mk (Kd.V_below (pV HO0_6.out) hb)
     have n1_ := Aside0.mk (Kd.V_below (pV HO0_10.out) hb)
     have n2_ := Aside0.mk (Kd.V_below (pV HO379.out) hb)
     have n3_ := Aside0.mk (Kd.N_below (pN HO382.out) hb)
     have n4_ := Aside0.mk (Kd.V_lower (Kd.V_mono (ok' := fun k_ => ((P0_6_ k_ ∨ P0_10_ k_) ∨ w.heap.size ≤ k_) ∧ k_ ≠ gb360) ho0 (fun k_ hk_ => ⟨Or.elim hk_ (fun hs_ => hs_.1) (fun hn_ => (.inr (Nat.le_trans (below_size pB) hn_))), Or.elim hk_ (fun hs_ => hs_.2) (fun hn_ => (Kd.freshB (g := gb360) (o := .cells #[.int .u64 a0_0, .int .u64 a0_1, .slice A0_2 l0_2.length c0_2, .int .i64 a0_3, .int .u64 a0_4, .string a0_5, .slice A0_6 l0_6.length c0_6, .int .i64 a0_7, .int .u64 a0_8, .string a0_9, .slice A0_10 l0_10.length c0_10] 28 (0, 0)) (pK BK360.out) k_ hn_))⟩)) (below_size pB))
     have n5_ := Aside0.mk (pkb BK360.out hb)
     have n6_ := Aside0.mk (below_step pB hb)
     clear HO0_6 HO0_10 HO379 HO382 BK360 HB; have HO0_6 := n0_; have HO0_10 := n1_; have HO379 := n2_; have HO382 := n3_; have HO388 := n4_; have BK360 := n5_; have HB := n6_; clear n0_ n1_ n2_ n3_ n4_ n5_ n6_; (try clear hb); (try clear hb2); (try clear hk); (try clear hi); (try clear ho0)
     obtain ⟨Ao27, co27, eo27⟩ := Kd.V_slice HO388.out
     (first | subst eo27 | (injection eo27 with f1_ f2_ f3_; have f4_ := f1_.symm; have f5_ := f3_.symm; clear f1_ f2_ f3_; subst f4_; subst f5_))
     refine hK.out _ _ ⟨cz0 BK360.out, cz1 BK360.out, cz2 BK360.out, cz3 BK360.out, cz4 BK360.out, cz5 BK360.out, cz6 BK360.out, cz7 BK360.out, cz8 BK360.out, cz9 BK360.out, cz10 BK360.out⟩ (fun hHeld => ?_)
     clear hK K
     refine norm_ (a' := ?_) ?_ ?_
     rotate_left
     ·show Act.put _ (some 28) _ = _
      exact pA
     refine one_ (i := 15) (N := some 29) #[true, true, true, true, true, true, true, true, true, true, true, true, true, true, true, true, false, false, false, false, false] rfl rfl (one_of HT_.out (by kernel_rfl)) (by decide) (fun K hK => ?_)
     refine goes_ Tryd.func31 (by kernel_rfl) rfl #[.agg #[.int .i64 t383, .int .u64 t384, .string t385, .slice Ao27 t386.length co27]] (by rfl) rfl rfl pM ?_
     with_reducible refine (minstrelref07_Encode.calls k t383 t384 t385 _ _ t386 t389 t392 _ ?side1 ?side2 A11.out).mono ?_
     (case side1 => repeat (first | exact (Kd.V_reads' HO388.out).2.2 | (with_reducible refine Kd.C_alloc ?_ _) | (with_reducible refine Kd.C_drewN ?_ _) | (with_reducible refine Kd.C_drew ?_)))
     (case side2 => exact (Kd.V_reads' HO388.out).2.1)
     rintro e w28 ⟨v390, rfl, ho0, hb⟩
     refine ⟨_, rfl, ?_⟩
     have n0_ := Aside0.mk (Kd.V_elder' (pV HO0_6.out) (Kd.R_base ho0) hb)
     have n1_ := Aside0.mk (Kd.V_elder' (pV HO0_10.out) (Kd.R_base ho0) hb)
     have n2_ := Aside0.mk (Kd.V_elder' (pV HO379.out) (Kd.R_base ho0) hb)
     have n3_ := Aside0.mk (Kd.N_elder' (pN HO382.out) (Kd.R_base ho0) hb)
     have n4_ := Aside0.mk (Kd.V_elder' (pV HO388.out) (Kd.R_base ho0) hb)
     have n5_ := Aside0.mk (Kd.R_lower (Kd.R_newM (M := fun k_ => (w.heap.size ≤ k_)) ho0 (below_size pB) (fun k_ h_ => h_)) (below_size pB))
     have n6_ := Aside0.mk (pkb BK360.out hb)
     have n7_ := Aside0.mk (below_step pB hb)
     clear HO0_6 HO0_10 HO379 HO382 HO388 BK360 HB; have HO0_6 := n0_; have HO0_10 := n1_; have HO379 := n2_; have HO382 := n3_; have HO388 := n4_; have HO391 := n5_; have BK360 := n6_; have HB := n7_; clear n0_ n1_ n2_ n3_ n4_ n5_ n6_ n7_; (try clear hb); (try clear hb2); (try clear hk); (try clear hi); (try clear ho0)
     refine hK.out _ _ ⟨cz0 BK360.out, cz1 BK360.out, cz2 BK360.out, cz3 BK360.out, cz4 BK360.out, cz5 BK360.out, cz6 BK360.out, cz7 BK360.out, cz8 BK360.out, cz9 BK360.out, cz10 BK360.out⟩ (fun hHeld => ?_)
     clear hK K
     refine norm_ (a' := ?_) ?_ ?_
     rotate_left
     ·show Act.put _ (some 29) _ = _
      exact pA
     refine pure_ (i := 16) (N := some 13) (v := ?_) (a' := ?_) #[true, true, true, true, true, true, true, true, true, true, true, true, true, true, true, true, true, false, false, false, false] rfl rfl (any_of HT_.out (by kernel_rfl)) (fun _ _ _ h => h) (Or.inl ⟨by kernel_rfl, ?_⟩) ?_ ?_
     rotate_left
     ·intro w'
      go_simp
      with_reducible rfl
     rotate_left
     ·exact pA
     refine pure_ (i := 17) (N := some 30) (v := ?_) (a' := ?_) #[true, true, true, true, true, true, true, true, true, true, true, true, true, true, true, true, true, true, false, false, false] rfl rfl (any_of HT_.out (by kernel_rfl)) (fun _ _ _ h => h) (Or.inl ⟨by kernel_rfl, ?_⟩) ?_ ?_
     rotate_left
     ·intro w'
      go_simp
      with_reducible rfl
     rotate_left
     ·exact pA
     refine pure_ (i := 18) (N := some 31) (v := ?_) (a' := ?_) #[true, true, true, true, true, true, true, true, true, true, true, true, true, true, true, true, true, true, true, false, false] rfl rfl (any_of HT_.out (by kernel_rfl)) (fun _ _ _ h => h) (Or.inl ⟨by kernel_rfl, ?_⟩) ?_ ?_
     rotate_left
     ·intro w'
      go_simp
      with_reducible rfl
     rotate_left
     ·exact pA
     refine pure_ (i := 19) (N := some 4) (v := ?_) (a' := ?_) #[true, true, true, true, true, true, true, true, true, true, true, true, true, true, true, true, true, true, true, true, false] rfl rfl (any_of HT_.out (by kernel_rfl)) (fun _ _ _ h => h) (Or.inl ⟨by kernel_rfl, ?_⟩) ?_ ?_
     rotate_left
     ·intro w'
      go_simp
      with_reducible rfl
     rotate_left
     ·exact pA
     refine pure_ (i := 20) (N := some 5) (v := ?_) (a' := ?_) #[true, true, true, true, true, true, true, true, true, true, true, true, true, true, true, true, true, true, true, true, true] rfl rfl (any_of HT_.out (by kernel_rfl)) (fun _ _ _ h => h) (Or.inl ⟨by kernel_rfl, ?_⟩) ?_ ?_
     rotate_left
     ·intro w'
      go_simp
      with_reducible rfl
     rotate_left
     ·exact pA
     refine done_ (done_of HT_.out (by kernel_rfl)) ?_
     obtain ⟨Ao29, co29, eo29⟩ := Kd.R_slice HO391.out
     subst eo29
     try go_wp2
     go_ret2
     exact ⟨_, pE, pZ, pB⟩
    ·rw [if_neg c13] at H
     have c13b0 : decide (1048320 < (t389.length : Int)) = false := decide_eq_false c13
     have c13b1 : decide (1048320 < t389.length) = false := decide_eq_false (by omega)
     clear c13
     replace H := Option.bind_eq_some_iff.mp H
     obtain ⟨t393, A300, H⟩ := H
     replace H : (some (t393, 0)) = some (r1, r2) := H
     have A30 := Aside0.mk A300
     clear A300
     simp only [Option.some.injEq, Prod.mk.injEq] at H
     obtain ⟨rfl, rfl⟩ := H
     go_enter Tryd.func11, Tryd.ntmps11
     try go_wp2_with (first | ((with_reducible refine gate_dst (N := 1) rfl ?_); refine box_event ?hg (N := 1) ?hd (cs := #[.int .u64 a0_0, .int .u64 a0_1, .slice A0_2 l0_2.length c0_2, .int .i64 a0_3, .int .u64 a0_4, .string a0_5, .slice A0_6 l0_6.length c0_6, .int .i64 a0_7, .int .u64 a0_8, .string a0_9, .slice A0_10 l0_10.length c0_10]) (t := 28) ?hr ?_; (case hd => rfl); (case hg => rfl); (case hr => first | (go_simp; done) | (go_simp; rfl)); intro gb360 hg w31 hbox hb; have n0_ := Aside0.mk (Kd.V_below (Kd.V_elderB (pV HO0_6.out) gb360 (Nat.le_of_eq hg.symm)) hb); have n1_ := Aside0.mk (Kd.V_below (Kd.V_elderB (pV HO0_10.out) gb360 (Nat.le_of_eq hg.symm)) hb); have n2_ := Aside0.mk (below_step pB hb); have n3_ := Aside0.mk (hbox); have n4_ := Aside0.mk ((by rw [hg]; exact (below_size pB) : w.heap.size ≤ gb360)); have n5_ := Aside0.mk ((by rw [hg]; exact (below_size pB) : w.heap.size ≤ gb360)); clear HO0_6; clear HO0_10; clear HB; have HO0_6 := n0_; have HO0_10 := n1_; have HB := n2_; have BK360 := n3_; have GW360 := n4_; have GE360 := n5_; clear n0_ n1_ n2_ n3_ n4_ n5_; clear hb hbox hg; obtain ⟨hcz32_0, hcz32_1, hcz32_2, hcz32_3, hcz32_4, hcz32_5, hcz32_6, hcz32_7, hcz32_8, hcz32_9, hcz32_10, hfz32_0, hfz32_1, hfz32_2, hfz32_3, hfz32_4, hfz32_5, hfz32_6, hfz32_7, hfz32_8, hfz32_9, hfz32_10⟩ := cf11 BK360.out) | ((with_reducible refine gate_callee (f := 13) rfl ?_); refine goesL_ (some 8) rfl rfl Tryd.func13 (by kernel_rfl) rfl #[.slice A0_2 l0_2.length c0_2] rfl pM ?_; (with_reducible refine (minstrelref19_Members.calls k _ _ l0_2 true _ ?side1 ?side2 A2.out).mono ?_); (case side1 => exact pC (Kd.C_below HR0_2.out HB.out)); (case side2 => exact HC0_2.out); rintro e w' ⟨rfl, ⟨nd, rfl⟩⟩; refine ⟨_, rfl, ?_⟩))
     (try (rw [drewN_self w31]; generalize hq_ : World.drewN w31 _ = w31; have n0_ : Aside0 (Kd.V k26 26 w31 w.heap.size (fun k_ => ((P0_6_ k_ ∨ P0_10_ k_) ∨ w.heap.size ≤ k_) ∧ k_ ≠ gb360) (.slice A0_10 l0_10.length c0_10) l0_10) := ⟨by rw [← hq_]; exact (pV HO0_10.out)⟩; have n1_ : Aside0 (Kd.V k26 26 w31 w.heap.size (fun k_ => ((P0_6_ k_ ∨ P0_10_ k_) ∨ w.heap.size ≤ k_) ∧ k_ ≠ gb360) (.slice A0_6 l0_6.length c0_6) l0_6) := ⟨by rw [← hq_]; exact (pV HO0_6.out)⟩; have n2_ : Aside0 (w31.heap[gb360]? = some (.cells #[.int .u64 a0_0, .int .u64 a0_1, .slice A0_2 l0_2.length c0_2, .int .i64 a0_3, .int .u64 a0_4, .string a0_5, .slice A0_6 l0_6.length c0_6, .int .i64 a0_7, .int .u64 a0_8, .string a0_9, .slice A0_10 l0_10.length c0_10] 28 (0, 0))) := ⟨by rw [← hq_]; exact (pK BK360.out)⟩; have n3_ : Aside0 (Below w.heap.size w w31) := ⟨by rw [← hq_]; exact pB⟩; clear HO0_10 HO0_6 BK360 HB hq_; have HO0_10 := n0_; have HO0_6 := n1_; have BK360 := n2_; have HB := n3_; clear n0_ n1_ n2_ n3_))
     have n0_ := Aside0.mk (Kd.V_drew HO0_6.out)
     have n1_ := Aside0.mk (Kd.V_drew HO0_10.out)
     have n2_ := Aside0.mk (blk_drew BK360.out)
     have n3_ := Aside0.mk (below_drew1 HB.out)
     clear HO0_6 HO0_10 BK360 HB; have HO0_6 := n0_; have HO0_10 := n1_; have BK360 := n2_; have HB := n3_; clear n0_ n1_ n2_ n3_
     refine start_ (n := 21) (S := fun w' => w'.cell? ⟨gb360, 0, none⟩ = some (.int .u64 a0_0) ∧ w'.cell? ⟨gb360, 1, none⟩ = some (.int .u64 a0_1) ∧ w'.cell? ⟨gb360, 2, none⟩ = some (.slice A0_2 l0_2.length c0_2) ∧ w'.cell? ⟨gb360, 3, none⟩ = some (.int .i64 a0_3) ∧ w'.cell? ⟨gb360, 4, none⟩ = some (.int .u64 a0_4) ∧ w'.cell? ⟨gb360, 5, none⟩ = some (.string a0_5) ∧ w'.cell? ⟨gb360, 6, none⟩ = some (.slice A0_6 l0_6.length c0_6) ∧ w'.cell? ⟨gb360, 7, none⟩ = some (.int .i64 a0_7) ∧ w'.cell? ⟨gb360, 8, none⟩ = some (.int .u64 a0_8) ∧ w'.cell? ⟨gb360, 9, none⟩ = some (.string a0_9) ∧ w'.cell? ⟨gb360, 10, none⟩ = some (.slice A0_10 l0_10.length c0_10)) (ds := []) #[false, false, false, false, false, false, false, false, false, false, false, false, false, false, false, false, false, false, false, false, false] (by kernel_rfl) rfl rfl ⟨cz0 BK360.out, cz1 BK360.out, cz2 BK360.out, cz3 BK360.out, cz4 BK360.out, cz5 BK360.out, cz6 BK360.out, cz7 BK360.out, cz8 BK360.out, cz9 BK360.out, cz10 BK360.out⟩ (fun hHeld => ?_); refine with_tabW minstrelref19_Save.tab5 minstrelref19_Save.bits5 (fun HT_ HW_ => ?_)
     generalize w31.drew = w33 at HO0_6 HO0_10 BK360 HB hHeld ⊢
     refine pure_ (i := 0) (N := some 14) (v := ?_) (a' := ?_) #[true, false, false, false, false, false, false, false, false, false, false, false, false, false, false, false, false, false, false, false, false] rfl rfl (any_of HT_.out (by kernel_rfl)) (fun _ _ _ h => h) (Or.inl ⟨by kernel_rfl, ?_⟩) ?_ ?_
     rotate_left
     ·intro w'
      go_simp
      with_reducible rfl
     rotate_left
     ·exact pA
     refine pure_ (i := 3) (N := some 17) (v := ?_) (a' := ?_) #[true, false, false, true, false, false, false, false, false, false, false, false, false, false, false, false, false, false, false, false, false] rfl rfl (any_of HT_.out (by kernel_rfl)) (fun _ _ _ h => h) (Or.inl ⟨by kernel_rfl, ?_⟩) ?_ ?_
     rotate_left
     ·intro w'
      go_simp
      with_reducible rfl
     rotate_left
     ·exact pA
     refine pure_ (i := 6) (N := some 20) (v := ?_) (a' := ?_) #[true, false, false, true, false, false, true, false, false, false, false, false, false, false, false, false, false, false, false, false, false] rfl rfl (any_of HT_.out (by kernel_rfl)) (fun _ _ _ h => h) (Or.inl ⟨by kernel_rfl, ?_⟩) ?_ ?_
     rotate_left
     ·intro w'
      go_simp
      with_reducible rfl
     rotate_left
     ·exact pA
     refine pure_ (i := 9) (N := some 23) (v := ?_) (a' := ?_) #[true, false, false, true, false, false, true, false, false, true, false, false, false, false, false, false, false, false, false, false, false] rfl rfl (any_of HT_.out (by kernel_rfl)) (fun _ _ _ h => h) (Or.inl ⟨by kernel_rfl, ?_⟩) ?_ ?_
     rotate_left
     ·intro w'
      go_simp
      with_reducible rfl
     rotate_left
     ·exact pA
     refine pure_ (i := 11) (N := some 25) (v := ?_) (a' := ?_) #[true, false, false, true, false, false, true, false, false, true, false, true, false, false, false, false, false, false, false, false, false] rfl rfl (any_of HT_.out (by kernel_rfl)) (fun _ _ _ h => h) (Or.inl ⟨by kernel_rfl, ?_⟩) ?_ ?_
     rotate_left
     ·intro w'
      go_simp
      with_reducible rfl
     rotate_left
     ·exact pA
     refine take_ (i := 1) (N := some 15) (v := ?_) (a' := ?_) #[true, true, false, true, false, false, true, false, false, true, false, true, false, false, false, false, false, false, false, false, false] rfl rfl (take_ofW HT_.out HW_.out (by kernel_rfl)) (fun _ _ _ h => h) (Or.inl ⟨by kernel_rfl, ?_⟩) hHeld ?_ ?_
     rotate_left
     ·rintro w' ⟨s0, s1, s2, s3, s4, s5, s6, s7, s8, s9, s10⟩
      go_simp
      with_reducible rfl
     rotate_left
     ·exact pA
     refine take_ (i := 4) (N := some 18) (v := ?_) (a' := ?_) #[true, true, false, true, true, false, true, false, false, true, false, true, false, false, false, false, false, false, false, false, false] rfl rfl (take_ofW HT_.out HW_.out (by kernel_rfl)) (fun _ _ _ h => h) (Or.inl ⟨by kernel_rfl, ?_⟩) hHeld ?_ ?_
     rotate_left
     ·rintro w' ⟨s0, s1, s2, s3, s4, s5, s6, s7, s8, s9, s10⟩
      go_simp
      with_reducible rfl
     rotate_left
     ·exact pA
     refine take_ (i := 7) (N := some 21) (v := ?_) (a' := ?_) #[true, true, false, true, true, false, true, true, false, true, false, true, false, false, false, false, false, false, false, false, false] rfl rfl (take_ofW HT_.out HW_.out (by kernel_rfl)) (fun _ _ _ h => h) (Or.inl ⟨by kernel_rfl, ?_⟩) hHeld ?_ ?_
     rotate_left
     ·rintro w' ⟨s0, s1, s2, s3, s4, s5, s6, s7, s8, s9, s10⟩
      go_simp
      with_reducible rfl
     rotate_left
     ·exact pA
     refine take_ (i := 10) (N := some 24) (v := ?_) (a' := ?_) #[true, true, false, true, true, false, true, true, false, true, true, true, false, false, false, false, false, false, false, false, false] rfl rfl (take_ofW HT_.out HW_.out (by kernel_rfl)) (fun _ _ _ h => h) (Or.inl ⟨by kernel_rfl, ?_⟩) hHeld ?_ ?_
     rotate_left
     ·rintro w' ⟨s0, s1, s2, s3, s4, s5, s6, s7, s8, s9, s10⟩
      go_simp
      with_reducible rfl
     rotate_left
     ·exact pA
     refine take_ (i := 12) (N := some 26) (v := ?_) (a' := ?_) #[true, true, false, true, true, false, true, true, false, true, true, true, true, false, false, false, false, false, false, false, false] rfl rfl (take_ofW HT_.out HW_.out (by kernel_rfl)) (fun _ _ _ h => h) (Or.inl ⟨by kernel_rfl, ?_⟩) hHeld ?_ ?_
     rotate_left
     ·rintro w' ⟨s0, s1, s2, s3, s4, s5, s6, s7, s8, s9, s10⟩
      go_simp
      with_reducible rfl
     rotate_left
     ·exact pA
     refine one_ (i := 2) (N := some 16) #[true, true, true, true, true, false, true, true, false, true, true, true, true, false, false, false, false, false, false, false, false] rfl rfl (one_of HT_.out (by kernel_rfl)) (by decide) (fun K hK => ?_)
     refine goes_ Tryd.func33 (by kernel_rfl) rfl #[.int .u64 a0_0] (by rfl) rfl rfl pM ?_
     with_reducible refine (minstrelref07_Number.calls a0_0 t362 t363 t364 t365 _ A7.out).mono ?_
     rintro e w34 ⟨v366, rfl, ho0, hb⟩
     refine ⟨_, rfl, ?_⟩
     have n0_ := Aside0.mk (Kd.V_elder' (pV HO0_6.out) (by first | exact Kd.R_base ho0 | exact Kd.N_base ho0) hb)
     have n1_ := Aside0.mk (Kd.V_elder' (pV HO0_10.out) (by first | exact Kd.R_base ho0 | exact Kd.N_base ho0) hb)
     have n2_ := Aside0.mk (Kd.N_lower (Kd.N_mono (ok' := fun k_ => ((P0_6_ k_ ∨ P0_10_ k_) ∨ w.heap.size ≤ k_) ∧ k_ ≠ gb360) (Kd.R_N (Kd.R_bound ho0)) (fun k_ hk_ => ⟨(.inr (Nat.le_trans (below_size pB) hk_.2.1)), (Kd.freshB (g := gb360) (o := .cells #[.int .u64 a0_0, .int .u64 a0_1, .slice A0_2 l0_2.length c0_2, .int .i64 a0_3, .int .u64 a0_4, .string a0_5, .slice A0_6 l0_6.length c0_6, .int .i64 a0_7, .int .u64 a0_8, .string a0_9, .slice A0_10 l0_10.length c0_10] 28 (0, 0)) (pK BK360.out) k_ hk_.2.1)⟩)) (below_size pB))
     have n3_ := Aside0.mk (pkb BK360.out hb)
     have n4_ := Aside0.mk (below_step pB hb)
     clear HO0_6 HO0_10 BK360 HB; have HO0_6 := n0_; have HO0_10 := n1_; have HO367 := n2_; have BK360 := n3_; have HB := n4_; clear n0_ n1_ n2_ n3_ n4_; (try clear hb); (try clear hb2); (try clear hk); (try clear hi); (try clear ho0)
     refine hK.out _ _ ⟨cz0 BK360.out, cz1 BK360.out, cz2 BK360.out, cz3 BK360.out, cz4 BK360.out, cz5 BK360.out, cz6 BK360.out, cz7 BK360.out, cz8 BK360.out, cz9 BK360.out, cz10 BK360.out⟩ (fun hHeld => ?_)
     clear hK K
     refine norm_ (a' := ?_) ?_ ?_
     rotate_left
     ·show Act.put _ (some 16) _ = _
      exact pA
     refine one_ (i := 5) (N := some 19) #[true, true, true, true, true, true, true, true, false, true, true, true, true, false, false, false, false, false, false, false, false] rfl rfl (one_of HT_.out (by kernel_rfl)) (by decide) (fun K hK => ?_)
     refine goes_ Tryd.func33 (by kernel_rfl) rfl #[.int .u64 a0_1] (by rfl) rfl rfl pM ?_
     with_reducible refine (minstrelref07_Number.calls a0_1 t368 t369 t370 t371 _ A8.out).mono ?_
     rintro e w35 ⟨v372, rfl, ho0, hb⟩
     refine ⟨_, rfl, ?_⟩
     have n0_ := Aside0.mk (Kd.V_elder' (pV HO0_6.out) (by first | exact Kd.R_base ho0 | exact Kd.N_base ho0) hb)
     have n1_ := Aside0.mk (Kd.V_elder' (pV HO0_10.out) (by first | exact Kd.R_base ho0 | exact Kd.N_base ho0) hb)
     have n2_ := Aside0.mk (Kd.N_elder' (pN HO367.out) (by first | exact Kd.R_base ho0 | exact Kd.N_base ho0) hb)
     have n3_ := Aside0.mk (Kd.N_lower (Kd.N_mono (ok' := fun k_ => ((P0_6_ k_ ∨ P0_10_ k_) ∨ w.heap.size ≤ k_) ∧ some k_ ≠ (v366 : Value).ownBlock ∧ k_ ≠ gb360) (Kd.R_N (Kd.R_bound ho0)) (fun k_ hk_ => ⟨(.inr (Nat.le_trans (below_size pB) hk_.2.1)), (Kd.fresh' (Kd.N_lt (pN HO367.out)) k_ hk_.2.1), (Kd.freshB (g := gb360) (o := .cells #[.int .u64 a0_0, .int .u64 a0_1, .slice A0_2 l0_2.length c0_2, .int .i64 a0_3, .int .u64 a0_4, .string a0_5, .slice A0_6 l0_6.length c0_6, .int .i64 a0_7, .int .u64 a0_8, .string a0_9, .slice A0_10 l0_10.length c0_10] 28 (0, 0)) (pK BK360.out) k_ hk_.2.1)⟩)) (below_size pB))
     have n4_ := Aside0.mk (pkb BK360.out hb)
     have n5_ := Aside0.mk (below_step pB hb)
     clear HO0_6 HO0_10 HO367 BK360 HB; have HO0_6 := n0_; have HO0_10 := n1_; have HO367 := n2_; have HO373 := n3_; have BK360 := n4_; have HB := n5_; clear n0_ n1_ n2_ n3_ n4_ n5_; (try clear hb); (try clear hb2); (try clear hk); (try clear hi); (try clear ho0)
     refine hK.out _ _ ⟨cz0 BK360.out, cz1 BK360.out, cz2 BK360.out, cz3 BK360.out, cz4 BK360.out, cz5 BK360.out, cz6 BK360.out, cz7 BK360.out, cz8 BK360.out, cz9 BK360.out, cz10 BK360.out⟩ (fun hHeld => ?_)
     clear hK K
     refine norm_ (a' := ?_) ?_ ?_
     rotate_left
     ·show Act.put _ (some 19) _ = _
      exact pA
     refine one_ (i := 8) (N := some 22) #[true, true, true, true, true, true, true, true, true, true, true, true, true, false, false, false, false, false, false, false, false] rfl rfl (one_of HT_.out (by kernel_rfl)) (by decide) (fun K hK => ?_)
     refine goes_ Tryd.func34 (by kernel_rfl) rfl #[.slice A0_2 l0_2.length c0_2] (by rfl) rfl rfl pM ?_
     with_reducible refine (minstrelref19_members.calls k _ _ l0_2 t374 t375 t376 t377 _ ?side1 ?side2 A9.out).mono ?_
     (case side1 => exact pC (Kd.C_below HR0_2.out HB.out))
     (case side2 => exact HC0_2.out)
     rintro e w36 ⟨v378, rfl, ho0, hb⟩
     refine ⟨_, rfl, ?_⟩
     have n0_ := Aside0.mk (Kd.V_below (pV HO0_6.out) hb)
     have n1_ := Aside0.mk (Kd.V_below (pV HO0_10.out) hb)
     have n2_ := Aside0.mk (Kd.N_below (pN HO367.out) hb)
     have n3_ := Aside0.mk (Kd.N_below (pN HO373.out) hb)
     have n4_ := Aside0.mk (Kd.V_lower (Kd.V_mono (ok' := fun k_ => ((P0_6_ k_ ∨ P0_10_ k_) ∨ w.heap.size ≤ k_) ∧ some k_ ≠ (v366 : Value).ownBlock ∧ some k_ ≠ (v372 : Value).ownBlock ∧ k_ ≠ gb360) ho0 (fun k_ hk_ => ⟨(.inr (Nat.le_trans (below_size pB) hk_)), (Kd.fresh' (Kd.N_lt (pN HO367.out)) k_ hk_), (Kd.fresh' (Kd.N_lt (pN HO373.out)) k_ hk_), (Kd.freshB (g := gb360) (o := .cells #[.int .u64 a0_0, .int .u64 a0_1, .slice A0_2 l0_2.length c0_2, .int .i64 a0_3, .int .u64 a0_4, .string a0_5, .slice A0_6 l0_6.length c0_6, .int .i64 a0_7, .int .u64 a0_8, .string a0_9, .slice A0_10 l0_10.length c0_10] 28 (0, 0)) (pK BK360.out) k_ hk_)⟩)) (below_size pB))
     have n5_ := Aside0.mk (pkb BK360.out hb)
     have n6_ := Aside0.mk (below_step pB hb)
     clear HO0_6 HO0_10 HO367 HO373 BK360 HB; have HO0_6 := n0_; have HO0_10 := n1_; have HO367 := n2_; have HO373 := n3_; have HO379 := n4_; have BK360 := n5_; have HB := n6_; clear n0_ n1_ n2_ n3_ n4_ n5_ n6_; (try clear hb); (try clear hb2); (try clear hk); (try clear hi); (try clear ho0)
     obtain ⟨Ao37, co37, eo37⟩ := Kd.N_slice HO367.out
     (first | subst eo37 | (injection eo37 with f1_ f2_ f3_; have f4_ := f1_.symm; have f5_ := f3_.symm; clear f1_ f2_ f3_; subst f4_; subst f5_))
     obtain ⟨Ao38, co38, eo38⟩ := Kd.N_slice HO373.out
     (first | subst eo38 | (injection eo38 with f1_ f2_ f3_; have f4_ := f1_.symm; have f5_ := f3_.symm; clear f1_ f2_ f3_; subst f4_; subst f5_))
     obtain ⟨Ao39, co39, eo39⟩ := Kd.V_slice HO379.out
     (first | subst eo39 | (injection eo39 with f1_ f2_ f3_; have f4_ := f1_.symm; have f5_ := f3_.symm; clear f1_ f2_ f3_; subst f4_; subst f5_))
     refine hK.out _ _ ⟨cz0 BK360.out, cz1 BK360.out, cz2 BK360.out, cz3 BK360.out, cz4 BK360.out, cz5 BK360.out, cz6 BK360.out, cz7 BK360.out, cz8 BK360.out, cz9 BK360.out, cz10 BK360.out⟩ (fun hHeld => ?_)
     clear hK K
     refine norm_ (a' := ?_) ?_ ?_
     rotate_left
     ·show Act.put _ (some 22) _ = _
      exact pA
     refine one_ (i := 13) (N := some 27) #[true, true, true, true, true, true, true, true, true, true, true, true, true, true, false, false, false, false, false, false, false] rfl rfl (one_of HT_.out (by kernel_rfl)) (by decide) (fun K hK => ?_)
     refine Kd.N_lit_step k26 _ 26 ?hg (N' := 27) ?hd (xs := ([(⟨t362, t363, t364, t365⟩ : S26), (⟨t368, t369, t370, t371⟩ : S26), (⟨t374, t375, t376, t377⟩ : S26), (⟨a0_3, a0_4, a0_5, l0_6⟩ : S26), (⟨a0_7, a0_8, a0_9, l0_10⟩ : S26)] : List (S26))) (inner := [.int .i64 t362, .int .u64 t363, .string t364, .slice Ao37 t365.length co37, .int .i64 t368, .int .u64 t369, .string t370, .slice Ao38 t371.length co38, .int .i64 t374, .int .u64 t375, .string t376, .slice Ao39 t377.length co39, .int .i64 a0_3, .int .u64 a0_4, .string a0_5, .slice A0_6 l0_6.length c0_6, .int .i64 a0_7, .int .u64 a0_8, .string a0_9, .slice A0_10 l0_10.length c0_10]) (ok := (fun k_ => ((P0_6_ k_ ∨ P0_10_ k_) ∨ w.heap.size ≤ k_) ∧ k_ ≠ gb360)) (okp := (fun k_ => ((P0_6_ k_ ∨ P0_10_ k_) ∨ w.heap.size ≤ k_) ∧ k_ ≠ gb360)) ?hr ?hp (fun _ hk => hk) ((show ∀ k_, w36.heap.size ≤ k_ → (fun k_ => ((P0_6_ k_ ∨ P0_10_ k_) ∨ w.heap.size ≤ k_) ∧ k_ ≠ gb360) k_ from fun k_ hk => ⟨(.inr (Nat.le_trans (below_size pB) hk)), Kd.freshB (g := gb360) (o := .cells #[.int .u64 a0_0, .int .u64 a0_1, .slice A0_2 l0_2.length c0_2, .int .i64 a0_3, .int .u64 a0_4, .string a0_5, .slice A0_6 l0_6.length c0_6, .int .i64 a0_7, .int .u64 a0_8, .string a0_9, .slice A0_10 l0_10.length c0_10] 28 (0, 0)) (pK BK360.out) k_ hk⟩) _ (Nat.le_refl _)) (Below.refl _ _) (Nat.le_refl _) (by simp) ?_; (case hd => rfl); (case hg => rfl); (case hr => first | (go_simp; done) | (go_simp; rfl)); (case hp => exact (Reps.c4 (show Kd.FK k26 _ _ (⟨t362, t363, t364, t365⟩ : S26) [.int .i64 t362, .int .u64 t363, .string t364, .slice Ao37 t365.length co37] from (k26_mkF _ _ (⟨t362, t363, t364, t365⟩ : S26) (Kd.N_reads' (Kd.N_mono (ok' := (fun k_ => ((P0_6_ k_ ∨ P0_10_ k_) ∨ w.heap.size ≤ k_) ∧ k_ ≠ gb360)) (HO367.out) (fun k_ hk => ⟨hk.1.1, hk.1.2⟩))).2.1 (Kd.N_F (Kd.N_mono (ok' := (fun k_ => ((P0_6_ k_ ∨ P0_10_ k_) ∨ w.heap.size ≤ k_) ∧ k_ ≠ gb360)) (HO367.out) (fun k_ hk => ⟨hk.1.1, hk.1.2⟩))))) (Reps.c4 (show Kd.FK k26 _ _ (⟨t368, t369, t370, t371⟩ : S26) [.int .i64 t368, .int .u64 t369, .string t370, .slice Ao38 t371.length co38] from (k26_mkF _ _ (⟨t368, t369, t370, t371⟩ : S26) (Kd.N_reads' (Kd.N_mono (ok' := (fun k_ => ((P0_6_ k_ ∨ P0_10_ k_) ∨ w.heap.size ≤ k_) ∧ k_ ≠ gb360)) (HO373.out) (fun k_ hk => ⟨hk.1, hk.2.2⟩))).2.1 (Kd.N_F (Kd.N_mono (ok' := (fun k_ => ((P0_6_ k_ ∨ P0_10_ k_) ∨ w.heap.size ≤ k_) ∧ k_ ≠ gb360)) (HO373.out) (fun k_ hk => ⟨hk.1, hk.2.2⟩))))) (Reps.c4 (show Kd.FK k26 _ _ (⟨t374, t375, t376, t377⟩ : S26) [.int .i64 t374, .int .u64 t375, .string t376, .slice Ao39 t377.length co39] from (k26_mkF _ _ (⟨t374, t375, t376, t377⟩ : S26) (Kd.V_reads' (Kd.V_mono (ok' := (fun k_ => ((P0_6_ k_ ∨ P0_10_ k_) ∨ w.heap.size ≤ k_) ∧ k_ ≠ gb360)) (HO379.out) (fun k_ hk => ⟨hk.1, hk.2.2.2⟩))).2.1 (Kd.V_F (Kd.V_mono (ok' := (fun k_ => ((P0_6_ k_ ∨ P0_10_ k_) ∨ w.heap.size ≤ k_) ∧ k_ ≠ gb360)) (HO379.out) (fun k_ hk => ⟨hk.1, hk.2.2.2⟩))))) (Reps.c4 (show Kd.FK k26 _ _ (⟨a0_3, a0_4, a0_5, l0_6⟩ : S26) [.int .i64 a0_3, .int .u64 a0_4, .string a0_5, .slice A0_6 l0_6.length c0_6] from (k26_mkF _ _ (⟨a0_3, a0_4, a0_5, l0_6⟩ : S26) (Kd.V_reads' (Kd.V_mono (ok' := (fun k_ => ((P0_6_ k_ ∨ P0_10_ k_) ∨ w.heap.size ≤ k_) ∧ k_ ≠ gb360)) (HO0_6.out) (fun k_ hk => ⟨hk.1.1.1, hk.1.1.2⟩))).2.1 (Kd.V_F (Kd.V_mono (ok' := (fun k_ => ((P0_6_ k_ ∨ P0_10_ k_) ∨ w.heap.size ≤ k_) ∧ k_ ≠ gb360)) (HO0_6.out) (fun k_ hk => ⟨hk.1.1.1, hk.1.1.2⟩))))) (Reps.c4 (show Kd.FK k26 _ _ (⟨a0_7, a0_8, a0_9, l0_10⟩ : S26) [.int .i64 a0_7, .int .u64 a0_8, .string a0_9, .slice A0_10 l0_10.length c0_10] from (k26_mkF _ _ (⟨a0_7, a0_8, a0_9, l0_10⟩ : S26) (Kd.V_reads' (Kd.V_mono (ok' := (fun k_ => ((P0_6_ k_ ∨ P0_10_ k_) ∨ w.heap.size ≤ k_) ∧ k_ ≠ gb360)) (HO0_10.out) (fun k_ hk => ⟨hk.1.1.1, hk.1.1.2⟩))).2.1 (Kd.V_F (Kd.V_mono (ok' := (fun k_ => ((P0_6_ k_ ∨ P0_10_ k_) ∨ w.heap.size ≤ k_) ∧ k_ ≠ gb360)) (HO0_10.out) (fun k_ hk => ⟨hk.1.1.1, hk.1.1.2⟩))))) (Reps.none _ _)))))))
     intro v381 w40 ho41 hb hg_ hnew_
     clear hg_ hnew_
     (first | rw [← Ny380.out] at ho41 | (simp only [Int.reduceToNat] at ho41; rw [← Ny380.out] at ho41))
     have n0_ := Aside0.mk (Kd.V_elder' (pV HO0_6.out) (by first | exact Kd.R_base ho41 | exact Kd.N_base ho41) hb)
     have n1_ := Aside0.mk (Kd.V_elder' (pV HO0_10.out) (by first | exact Kd.R_base ho41 | exact Kd.N_base ho41) hb)
     have n2_ := Aside0.mk (Kd.V_elder' (pV HO379.out) (by first | exact Kd.R_base ho41 | exact Kd.N_base ho41) hb)
     have n3_ := Aside0.mk (Kd.N_lower ho41 (below_size pB))
     have n4_ := Aside0.mk (pkb BK360.out hb)
     have n5_ := Aside0.mk (below_step pB hb)
     clear HO0_6 HO0_10 HO379 BK360 HB HO367 HO373; have HO0_6 := n0_; have HO0_10 := n1_; have HO379 := n2_; have HO382 := n3_; have BK360 := n4_; have HB := n5_; clear n0_ n1_ n2_ n3_ n4_ n5_ hb ho41
     obtain ⟨Ao42, co42, eo42⟩ := Kd.N_slice HO382.out
     (first | subst eo42 | (injection eo42 with f1_ f2_ f3_; have f4_ := f1_.symm; have f5_ := f3_.symm; clear f1_ f2_ f3_; subst f4_; subst f5_))
     refine hK.out _ _ ⟨cz0 BK360.out, cz1 BK360.out, cz2 BK360.out, cz3 BK360.out, cz4 BK360.out, cz5 BK360.out, cz6 BK360.out, cz7 BK360.out, cz8 BK360.out, cz9 BK360.out, cz10 BK360.out⟩ (fun hHeld => ?_)
     clear hK K
     refine norm_ (a' := ?_) ?_ ?_
     rotate_left
     ·show Act.put _ (some 27) _ = _
      exact pA
     refine one_ (i := 14) (N := some 28) #[true, true, true, true, true, true, true, true, true, true, true, true, true, true, true, false, false, false, false, false, false] rfl rfl (one_of HT_.out (by kernel_rfl)) (by decide) (fun K hK => ?_)
     refine goes_ Tryd.func32 (by kernel_rfl) rfl #[.slice Ao42 y380.length co42] (by rfl) rfl rfl pM ?_
     with_reducible refine (minstrelref07_List.calls (fun k_ => (((P0_6_ k_ ∨ P0_10_ k_) ∨ w.heap.size ≤ k_) ∧ k_ ≠ gb360)) _ _ y380 t383 t384 t385 t386 _ ?side1 A10.out).mono ?_
     (case side1 => exact Kd.N_V (HO382.out))
     rintro e w43 ⟨v387, rfl, ho0, hb⟩
     refine ⟨_, rfl, ?_⟩
     have n0_ := Aside0.mk (Kd.V_below (pV HO0_6.out) hb)
     have n1_ := Aside0.mk (Kd.V_below (pV HO0_10.out) hb)
     have n2_ := Aside0.mk (Kd.V_below (pV HO379.out) hb)
     have n3_ := Aside0.mk (Kd.N_below (pN HO382.out) hb)
     have n4_ := Aside0.mk (Kd.V_lower (Kd.V_mono (ok' := fun k_ => ((P0_6_ k_ ∨ P0_10_ k_) ∨ w.heap.size ≤ k_) ∧ k_ ≠ gb360) ho0 (fun k_ hk_ => ⟨Or.elim hk_ (fun hs_ => hs_.1) (fun hn_ => (.inr (Nat.le_trans (below_size pB) hn_))), Or.elim hk_ (fun hs_ => hs_.2) (fun hn_ => (Kd.freshB (g := gb360) (o := .cells #[.int .u64 a0_0, .int .u64 a0_1, .slice A0_2 l0_2.length c0_2, .int .i64 a0_3, .int .u64 a0_4, .string a0_5, .slice A0_6 l0_6.length c0_6, .int .i64 a0_7, .int .u64 a0_8, .string a0_9, .slice A0_10 l0_10.length c0_10] 28 (0, 0)) (pK BK360.out) k_ hn_))⟩)) (below_size pB))
     have n5_ := Aside0.mk (pkb BK360.out hb)
     have n6_ := Aside0.mk (below_step pB hb)
     clear HO0_6 HO0_10 HO379 HO382 BK360 HB; have HO0_6 := n0_; have HO0_10 := n1_; have HO379 := n2_; have HO382 := n3_; have HO388 := n4_; have BK360 := n5_; have HB := n6_; clear n0_ n1_ n2_ n3_ n4_ n5_ n6_; (try clear hb); (try clear hb2); (try clear hk); (try clear hi); (try clear ho0)
     obtain ⟨Ao44, co44, eo44⟩ := Kd.V_slice HO388.out
     (first | subst eo44 | (injection eo44 with f1_ f2_ f3_; have f4_ := f1_.symm; have f5_ := f3_.symm; clear f1_ f2_ f3_; subst f4_; subst f5_))
     refine hK.out _ _ ⟨cz0 BK360.out, cz1 BK360.out, cz2 BK360.out, cz3 BK360.out, cz4 BK360.out, cz5 BK360.out, cz6 BK360.out, cz7 BK360.out, cz8 BK360.out, cz9 BK360.out, cz10 BK360.out⟩ (fun hHeld => ?_)
     clear hK K
     refine norm_ (a' := ?_) ?_ ?_
     rotate_left
     ·show Act.put _ (some 28) _ = _
      exact pA
     refine one_ (i := 15) (N := some 29) #[true, true, true, true, true, true, true, true, true, true, true, true, true, true, true, true, false, false, false, false, false] rfl rfl (one_of HT_.out (by kernel_rfl)) (by decide) (fun K hK => ?_)
     refine goes_ Tryd.func31 (by kernel_rfl) rfl #[.agg #[.int .i64 t383, .int .u64 t384, .string t385, .slice Ao44 t386.length co44]] (by rfl) rfl rfl pM ?_
     with_reducible refine (minstrelref07_Encode.calls k t383 t384 t385 _ _ t386 t389 t392 _ ?side1 ?side2 A11.out).mono ?_
     (case side1 => repeat (first | exact (Kd.V_reads' HO388.out).2.2 | (with_reducible refine Kd.C_alloc ?_ _) | (with_reducible refine Kd.C_drewN ?_ _) | (with_reducible refine Kd.C_drew ?_)))
     (case side2 => exact (Kd.V_reads' HO388.out).2.1)
     rintro e w45 ⟨v390, rfl, ho0, hb⟩
     refine ⟨_, rfl, ?_⟩
     have n0_ := Aside0.mk (Kd.V_elder' (pV HO0_6.out) (Kd.R_base ho0) hb)
     have n1_ := Aside0.mk (Kd.V_elder' (pV HO0_10.out) (Kd.R_base ho0) hb)
     have n2_ := Aside0.mk (Kd.V_elder' (pV HO379.out) (Kd.R_base ho0) hb)
     have n3_ := Aside0.mk (Kd.N_elder' (pN HO382.out) (Kd.R_base ho0) hb)
     have n4_ := Aside0.mk (Kd.V_elder' (pV HO388.out) (Kd.R_base ho0) hb)
     have n5_ := Aside0.mk (Kd.R_lower (Kd.R_newM (M := fun k_ => (w.heap.size ≤ k_)) ho0 (below_size pB) (fun k_ h_ => h_)) (below_size pB))
     have n6_ := Aside0.mk (pkb BK360.out hb)
     have n7_ := Aside0.mk (below_step pB hb)
     clear HO0_6 HO0_10 HO379 HO382 HO388 BK360 HB; have HO0_6 := n0_; have HO0_10 := n1_; have HO379 := n2_; have HO382 := n3_; have HO388 := n4_; have HO391 := n5_; have BK360 := n6_; have HB := n7_; clear n0_ n1_ n2_ n3_ n4_ n5_ n6_ n7_; (try clear hb); (try clear hb2); (try clear hk); (try clear hi); (try clear ho0)
     refine hK.out _ _ ⟨cz0 BK360.out, cz1 BK360.out, cz2 BK360.out, cz3 BK360.out, cz4 BK360.out, cz5 BK360.out, cz6 BK360.out, cz7 BK360.out, cz8 BK360.out, cz9 BK360.out, cz10 BK360.out⟩ (fun hHeld => ?_)
     clear hK K
     refine norm_ (a' := ?_) ?_ ?_
     rotate_left
     ·show Act.put _ (some 29) _ = _
      exact pA
     refine pure_ (i := 16) (N := some 13) (v := ?_) (a' := ?_) #[true, true, true, true, true, true, true, true, true, true, true, true, true, true, true, true, true, false, false, false, false] rfl rfl (any_of HT_.out (by kernel_rfl)) (fun _ _ _ h => h) (Or.inl ⟨by kernel_rfl, ?_⟩) ?_ ?_
     rotate_left
     ·intro w'
      go_simp
      with_reducible rfl
     rotate_left
     ·exact pA
     refine pure_ (i := 17) (N := some 30) (v := ?_) (a' := ?_) #[true, true, true, true, true, true, true, true, true, true, true, true, true, true, true, true, true, true, false, false, false] rfl rfl (any_of HT_.out (by kernel_rfl)) (fun _ _ _ h => h) (Or.inl ⟨by kernel_rfl, ?_⟩) ?_ ?_
     rotate_left
     ·intro w'
      go_simp
      with_reducible rfl
     rotate_left
     ·exact pA
     refine pure_ (i := 18) (N := some 31) (v := ?_) (a' := ?_) #[true, true, true, true, true, true, true, true, true, true, true, true, true, true, true, true, true, true, true, false, false] rfl rfl (any_of HT_.out (by kernel_rfl)) (fun _ _ _ h => h) (Or.inl ⟨by kernel_rfl, ?_⟩) ?_ ?_
     rotate_left
     ·intro w'
      go_simp
      with_reducible rfl
     rotate_left
     ·exact pA
     refine pure_ (i := 19) (N := some 4) (v := ?_) (a' := ?_) #[true, true, true, true, true, true, true, true, true, true, true, true, true, true, true, true, true, true, true, true, false] rfl rfl (any_of HT_.out (by kernel_rfl)) (fun _ _ _ h => h) (Or.inl ⟨by kernel_rfl, ?_⟩) ?_ ?_
     rotate_left
     ·intro w'
      go_simp
      with_reducible rfl
     rotate_left
     ·exact pA
     refine pure_ (i := 20) (N := some 5) (v := ?_) (a' := ?_) #[true, true, true, true, true, true, true, true, true, true, true, true, true, true, true, true, true, true, true, true, true] rfl rfl (any_of HT_.out (by kernel_rfl)) (fun _ _ _ h => h) (Or.inl ⟨by kernel_rfl, ?_⟩) ?_ ?_
     rotate_left
     ·intro w'
      go_simp
      with_reducible rfl
     rotate_left
     ·exact pA
     refine done_ (done_of HT_.out (by kernel_rfl)) ?_
     obtain ⟨Ao46, co46, eo46⟩ := Kd.R_slice HO391.out
     subst eo46
     try go_wp2_with (first | ((with_reducible refine gate_callee (f := 35) rfl ?_); refine goesL_ (some 39) rfl rfl Tryd.func35 (by kernel_rfl) rfl #[.slice Ao46 t389.length co46] rfl pM ?_; (with_reducible refine (minstrelref06_Frame.calls k _ _ t389 t393 _ ?side1 ?side2 A30.out).mono ?_); (case side1 => repeat (first | exact (Kd.R_reads' HO391.out).2.2 | (with_reducible refine Kd.C_alloc ?_ _) | (with_reducible refine Kd.C_drewN ?_ _) | (with_reducible refine Kd.C_drew ?_))); (case side2 => exact (Kd.R_reads' HO391.out).2.1); rintro e w47 ⟨v394, rfl, ho0, hb⟩; refine ⟨_, rfl, ?_⟩; have n0_ := Aside0.mk (Kd.V_elder' (pV HO0_6.out) (Kd.R_base ho0) hb); have n1_ := Aside0.mk (Kd.V_elder' (pV HO0_10.out) (Kd.R_base ho0) hb); have n2_ := Aside0.mk (Kd.V_elder' (pV HO379.out) (Kd.R_base ho0) hb); have n3_ := Aside0.mk (Kd.N_elder' (pN HO382.out) (Kd.R_base ho0) hb); have n4_ := Aside0.mk (Kd.V_elder' (pV HO388.out) (Kd.R_base ho0) hb); have n5_ := Aside0.mk (Kd.R_elder' (pR HO391.out) (Kd.R_base ho0) hb); have n6_ := Aside0.mk (Kd.R_lower (Kd.R_new' (Kd.R_newM (M := fun k_ => (w.heap.size ≤ k_)) ho0 (below_size pB) (fun k_ h_ => h_)) (Kd.R_lt (pR HO391.out))) (below_size pB)); have n7_ := Aside0.mk (pkb BK360.out hb); have n8_ := Aside0.mk (below_step pB hb); clear HO0_6; clear HO0_10; clear HO379; clear HO382; clear HO388; clear HO391; clear BK360; clear HB; have HO0_6 := n0_; have HO0_10 := n1_; have HO379 := n2_; have HO382 := n3_; have HO388 := n4_; have HO391 := n5_; have HO395 := n6_; have BK360 := n7_; have HB := n8_; clear n0_ n1_ n2_ n3_ n4_ n5_ n6_ n7_ n8_; (try clear hb); (try clear hb2); (try clear hk); (try clear hi); (try clear ho0)))
     go_ret2
     exact ⟨_, pE, by (with_reducible repeat (first | apply Kd.R_alloc | apply Kd.R_drewN | apply Kd.R_drew)); exact Kd.R_mono HO395.out (fun _ hk => hk.1.1), pB⟩
   ·rw [if_neg c12] at H
    have c12b0 : (t392 == 0) = false := beq_eq_false_iff_ne.mpr c12
    have c12b1 : (t392 != 0) = true := bne_iff_ne.mpr c12
    simp only [Option.some.injEq, Prod.mk.injEq] at H
    obtain ⟨rfl, rfl⟩ := H
    go_enter Tryd.func11, Tryd.ntmps11
    try go_wp2_with (first | ((with_reducible refine gate_dst (N := 1) rfl ?_); refine box_event ?hg (N := 1) ?hd (cs := #[.int .u64 a0_0, .int .u64 a0_1, .slice A0_2 l0_2.length c0_2, .int .i64 a0_3, .int .u64 a0_4, .string a0_5, .slice A0_6 l0_6.length c0_6, .int .i64 a0_7, .int .u64 a0_8, .string a0_9, .slice A0_10 l0_10.length c0_10]) (t := 28) ?hr ?_; (case hd => rfl); (case hg => rfl); (case hr => first | (go_simp; done) | (go_simp; rfl)); intro gb360 hg w48 hbox hb; have n0_ := Aside0.mk (Kd.V_below (Kd.V_elderB (pV HO0_6.out) gb360 (Nat.le_of_eq hg.symm)) hb); have n1_ := Aside0.mk (Kd.V_below (Kd.V_elderB (pV HO0_10.out) gb360 (Nat.le_of_eq hg.symm)) hb); have n2_ := Aside0.mk (below_step pB hb); have n3_ := Aside0.mk (hbox); have n4_ := Aside0.mk ((by rw [hg]; exact (below_size pB) : w.heap.size ≤ gb360)); have n5_ := Aside0.mk ((by rw [hg]; exact (below_size pB) : w.heap.size ≤ gb360)); clear HO0_6; clear HO0_10; clear HB; have HO0_6 := n0_; have HO0_10 := n1_; have HB := n2_; have BK360 := n3_; have GW360 := n4_; have GE360 := n5_; clear n0_ n1_ n2_ n3_ n4_ n5_; clear hb hbox hg; obtain ⟨hcz49_0, hcz49_1, hcz49_2, hcz49_3, hcz49_4, hcz49_5, hcz49_6, hcz49_7, hcz49_8, hcz49_9, hcz49_10, hfz49_0, hfz49_1, hfz49_2, hfz49_3, hfz49_4, hfz49_5, hfz49_6, hfz49_7, hfz49_8, hfz49_9, hfz49_10⟩ := cf11 BK360.out) | ((with_reducible refine gate_callee (f := 13) rfl ?_); refine goesL_ (some 8) rfl rfl Tryd.func13 (by kernel_rfl) rfl #[.slice A0_2 l0_2.length c0_2] rfl pM ?_; (with_reducible refine (minstrelref19_Members.calls k _ _ l0_2 true _ ?side1 ?side2 A2.out).mono ?_); (case side1 => exact pC (Kd.C_below HR0_2.out HB.out)); (case side2 => exact HC0_2.out); rintro e w' ⟨rfl, ⟨nd, rfl⟩⟩; refine ⟨_, rfl, ?_⟩))
    (try (rw [drewN_self w48]; generalize hq_ : World.drewN w48 _ = w48; have n0_ : Aside0 (Kd.V k26 26 w48 w.heap.size (fun k_ => ((P0_6_ k_ ∨ P0_10_ k_) ∨ w.heap.size ≤ k_) ∧ k_ ≠ gb360) (.slice A0_10 l0_10.length c0_10) l0_10) := ⟨by rw [← hq_]; exact (pV HO0_10.out)⟩; have n1_ : Aside0 (Kd.V k26 26 w48 w.heap.size (fun k_ => ((P0_6_ k_ ∨ P0_10_ k_) ∨ w.heap.size ≤ k_) ∧ k_ ≠ gb360) (.slice A0_6 l0_6.length c0_6) l0_6) := ⟨by rw [← hq_]; exact (pV HO0_6.out)⟩; have n2_ : Aside0 (w48.heap[gb360]? = some (.cells #[.int .u64 a0_0, .int .u64 a0_1, .slice A0_2 l0_2.length c0_2, .int .i64 a0_3, .int .u64 a0_4, .string a0_5, .slice A0_6 l0_6.length c0_6, .int .i64 a0_7, .int .u64 a0_8, .string a0_9, .slice A0_10 l0_10.length c0_10] 28 (0, 0))) := ⟨by rw [← hq_]; exact (pK BK360.out)⟩; have n3_ : Aside0 (Below w.heap.size w w48) := ⟨by rw [← hq_]; exact pB⟩; clear HO0_10 HO0_6 BK360 HB hq_; have HO0_10 := n0_; have HO0_6 := n1_; have BK360 := n2_; have HB := n3_; clear n0_ n1_ n2_ n3_))
    have n0_ := Aside0.mk (Kd.V_drew HO0_6.out)
    have n1_ := Aside0.mk (Kd.V_drew HO0_10.out)
    have n2_ := Aside0.mk (blk_drew BK360.out)
    have n3_ := Aside0.mk (below_drew1 HB.out)
    clear HO0_6 HO0_10 BK360 HB; have HO0_6 := n0_; have HO0_10 := n1_; have BK360 := n2_; have HB := n3_; clear n0_ n1_ n2_ n3_
    refine start_ (n := 21) (S := fun w' => w'.cell? ⟨gb360, 0, none⟩ = some (.int .u64 a0_0) ∧ w'.cell? ⟨gb360, 1, none⟩ = some (.int .u64 a0_1) ∧ w'.cell? ⟨gb360, 2, none⟩ = some (.slice A0_2 l0_2.length c0_2) ∧ w'.cell? ⟨gb360, 3, none⟩ = some (.int .i64 a0_3) ∧ w'.cell? ⟨gb360, 4, none⟩ = some (.int .u64 a0_4) ∧ w'.cell? ⟨gb360, 5, none⟩ = some (.string a0_5) ∧ w'.cell? ⟨gb360, 6, none⟩ = some (.slice A0_6 l0_6.length c0_6) ∧ w'.cell? ⟨gb360, 7, none⟩ = some (.int .i64 a0_7) ∧ w'.cell? ⟨gb360, 8, none⟩ = some (.int .u64 a0_8) ∧ w'.cell? ⟨gb360, 9, none⟩ = some (.string a0_9) ∧ w'.cell? ⟨gb360, 10, none⟩ = some (.slice A0_10 l0_10.length c0_10)) (ds := []) #[false, false, false, false, false, false, false, false, false, false, false, false, false, false, false, false, false, false, false, false, false] (by kernel_rfl) rfl rfl ⟨cz0 BK360.out, cz1 BK360.out, cz2 BK360.out, cz3 BK360.out, cz4 BK360.out, cz5 BK360.out, cz6 BK360.out, cz7 BK360.out, cz8 BK360.out, cz9 BK360.out, cz10 BK360.out⟩ (fun hHeld => ?_); refine with_tabW minstrelref19_Save.tab5 minstrelref19_Save.bits5 (fun HT_ HW_ => ?_)
    generalize w48.drew = w50 at HO0_6 HO0_10 BK360 HB hHeld ⊢
    refine pure_ (i := 0) (N := some 14) (v := ?_) (a' := ?_) #[true, false, false, false, false, false, false, false, false, false, false, false, false, false, false, false, false, false, false, false, false] rfl rfl (any_of HT_.out (by kernel_rfl)) (fun _ _ _ h => h) (Or.inl ⟨by kernel_rfl, ?_⟩) ?_ ?_
    rotate_left
    ·intro w'
     go_simp
     with_reducible rfl
    rotate_left
    ·exact pA
    refine pure_ (i := 3) (N := some 17) (v := ?_) (a' := ?_) #[true, false, false, true, false, false, false, false, false, false, false, false, false, false, false, false, false, false, false, false, false] rfl rfl (any_of HT_.out (by kernel_rfl)) (fun _ _ _ h => h) (Or.inl ⟨by kernel_rfl, ?_⟩) ?_ ?_
    rotate_left
    ·intro w'
     go_simp
     with_reducible rfl
    rotate_left
    ·exact pA
    refine pure_ (i := 6) (N := some 20) (v := ?_) (a' := ?_) #[true, false, false, true, false, false, true, false, false, false, false, false, false, false, false, false, false, false, false, false, false] rfl rfl (any_of HT_.out (by kernel_rfl)) (fun _ _ _ h => h) (Or.inl ⟨by kernel_rfl, ?_⟩) ?_ ?_
    rotate_left
    ·intro w'
     go_simp
     with_reducible rfl
    rotate_left
    ·exact pA
    refine pure_ (i := 9) (N := some 23) (v := ?_) (a' := ?_) #[true, false, false, true, false, false, true, false, false, true, false, false, false, false, false, false, false, false, false, false, false] rfl rfl (any_of HT_.out (by kernel_rfl)) (fun _ _ _ h => h) (Or.inl ⟨by kernel_rfl, ?_⟩) ?_ ?_
    rotate_left
    ·intro w'
     go_simp
     with_reducible rfl
    rotate_left
    ·exact pA
    refine pure_ (i := 11) (N := some 25) (v := ?_) (a' := ?_) #[true, false, false, true, false, false, true, false, false, true, false, true, false, false, false, false, false, false, false, false, false] rfl rfl (any_of HT_.out (by kernel_rfl)) (fun _ _ _ h => h) (Or.inl ⟨by kernel_rfl, ?_⟩) ?_ ?_
    rotate_left
    ·intro w'
     go_simp
     with_reducible rfl
    rotate_left
    ·exact pA
    refine take_ (i := 1) (N := some 15) (v := ?_) (a' := ?_) #[true, true, false, true, false, false, true, false, false, true, false, true, false, false, false, false, false, false, false, false, false] rfl rfl (take_ofW HT_.out HW_.out (by kernel_rfl)) (fun _ _ _ h => h) (Or.inl ⟨by kernel_rfl, ?_⟩) hHeld ?_ ?_
    rotate_left
    ·rintro w' ⟨s0, s1, s2, s3, s4, s5, s6, s7, s8, s9, s10⟩
     go_simp
     with_reducible rfl
    rotate_left
    ·exact pA
    refine take_ (i := 4) (N := some 18) (v := ?_) (a' := ?_) #[true, true, false, true, true, false, true, false, false, true, false, true, false, false, false, false, false, false, false, false, false] rfl rfl (take_ofW HT_.out HW_.out (by kernel_rfl)) (fun _ _ _ h => h) (Or.inl ⟨by kernel_rfl, ?_⟩) hHeld ?_ ?_
    rotate_left
    ·rintro w' ⟨s0, s1, s2, s3, s4, s5, s6, s7, s8, s9, s10⟩
     go_simp
     with_reducible rfl
    rotate_left
    ·exact pA
    refine take_ (i := 7) (N := some 21) (v := ?_) (a' := ?_) #[true, true, false, true, true, false, true, true, false, true, false, true, false, false, false, false, false, false, false, false, false] rfl rfl (take_ofW HT_.out HW_.out (by kernel_rfl)) (fun _ _ _ h => h) (Or.inl ⟨by kernel_rfl, ?_⟩) hHeld ?_ ?_
    rotate_left
    ·rintro w' ⟨s0, s1, s2, s3, s4, s5, s6, s7, s8, s9, s10⟩
     go_simp
     with_reducible rfl
    rotate_left
    ·exact pA
    refine take_ (i := 10) (N := some 24) (v := ?_) (a' := ?_) #[true, true, false, true, true, false, true, true, false, true, true, true, false, false, false, false, false, false, false, false, false] rfl rfl (take_ofW HT_.out HW_.out (by kernel_rfl)) (fun _ _ _ h => h) (Or.inl ⟨by kernel_rfl, ?_⟩) hHeld ?_ ?_
    rotate_left
    ·rintro w' ⟨s0, s1, s2, s3, s4, s5, s6, s7, s8, s9, s10⟩
     go_simp
     with_reducible rfl
    rotate_left
    ·exact pA
    refine take_ (i := 12) (N := some 26) (v := ?_) (a' := ?_) #[true, true, false, true, true, false, true, true, false, true, true, true, true, false, false, false, false, false, false, false, false] rfl rfl (take_ofW HT_.out HW_.out (by kernel_rfl)) (fun _ _ _ h => h) (Or.inl ⟨by kernel_rfl, ?_⟩) hHeld ?_ ?_
    rotate_left
    ·rintro w' ⟨s0, s1, s2, s3, s4, s5, s6, s7, s8, s9, s10⟩
     go_simp
     with_reducible rfl
    rotate_left
    ·exact pA
    refine one_ (i := 2) (N := some 16) #[true, true, true, true, true, false, true, true, false, true, true, true, true, false, false, false, false, false, false, false, false] rfl rfl (one_of HT_.out (by kernel_rfl)) (by decide) (fun K hK => ?_)
    refine goes_ Tryd.func33 (by kernel_rfl) rfl #[.int .u64 a0_0] (by rfl) rfl rfl pM ?_
    with_reducible refine (minstrelref07_Number.calls a0_0 t362 t363 t364 t365 _ A7.out).mono ?_
    rintro e w51 ⟨v366, rfl, ho0, hb⟩
    refine ⟨_, rfl, ?_⟩
    have n0_ := Aside0.mk (Kd.V_elder' (pV HO0_6.out) (by first | exact Kd.R_base ho0 | exact Kd.N_base ho0) hb)
    have n1_ := Aside0.mk (Kd.V_elder' (pV HO0_10.out) (by first | exact Kd.R_base ho0 | exact Kd.N_base ho0) hb)
    have n2_ := Aside0.mk (Kd.N_lower (Kd.N_mono (ok' := fun k_ => ((P0_6_ k_ ∨ P0_10_ k_) ∨ w.heap.size ≤ k_) ∧ k_ ≠ gb360) (Kd.R_N (Kd.R_bound ho0)) (fun k_ hk_ => ⟨(.inr (Nat.le_trans (below_size pB) hk_.2.1)), (Kd.freshB (g := gb360) (o := .cells #[.int .u64 a0_0, .int .u64 a0_1, .slice A0_2 l0_2.length c0_2, .int .i64 a0_3, .int .u64 a0_4, .string a0_5, .slice A0_6 l0_6.length c0_6, .int .i64 a0_7, .int .u64 a0_8, .string a0_9, .slice A0_10 l0_10.length c0_10] 28 (0, 0)) (pK BK360.out) k_ hk_.2.1)⟩)) (below_size pB))
    have n3_ := Aside0.mk (pkb BK360.out hb)
    have n4_ := Aside0.mk (below_step pB hb)
    clear HO0_6 HO0_10 BK360 HB; have HO0_6 := n0_; have HO0_10 := n1_; have HO367 := n2_; have BK360 := n3_; have HB := n4_; clear n0_ n1_ n2_ n3_ n4_; (try clear hb); (try clear hb2); (try clear hk); (try clear hi); (try clear ho0)
    refine hK.out _ _ ⟨cz0 BK360.out, cz1 BK360.out, cz2 BK360.out, cz3 BK360.out, cz4 BK360.out, cz5 BK360.out, cz6 BK360.out, cz7 BK360.out, cz8 BK360.out, cz9 BK360.out, cz10 BK360.out⟩ (fun hHeld => ?_)
    clear hK K
    refine norm_ (a' := ?_) ?_ ?_
    rotate_left
    ·show Act.put _ (some 16) _ = _
     exact pA
    refine one_ (i := 5) (N := some 19) #[true, true, true, true, true, true, true, true, false, true, true, true, true, false, false, false, false, false, false, false, false] rfl rfl (one_of HT_.out (by kernel_rfl)) (by decide) (fun K hK => ?_)
    refine goes_ Tryd.func33 (by kernel_rfl) rfl #[.int .u64 a0_1] (by rfl) rfl rfl pM ?_
    with_reducible refine (minstrelref07_Number.calls a0_1 t368 t369 t370 t371 _ A8.out).mono ?_
    rintro e w52 ⟨v372, rfl, ho0, hb⟩
    refine ⟨_, rfl, ?_⟩
    have n0_ := Aside0.mk (Kd.V_elder' (pV HO0_6.out) (by first | exact Kd.R_base ho0 | exact Kd.N_base ho0) hb)
    have n1_ := Aside0.mk (Kd.V_elder' (pV HO0_10.out) (by first | exact Kd.R_base ho0 | exact Kd.N_base ho0) hb)
    have n2_ := Aside0.mk (Kd.N_elder' (pN HO367.out) (by first | exact Kd.R_base ho0 | exact Kd.N_base ho0) hb)
    have n3_ := Aside0.mk (Kd.N_lower (Kd.N_mono (ok' := fun k_ => ((P0_6_ k_ ∨ P0_10_ k_) ∨ w.heap.size ≤ k_) ∧ some k_ ≠ (v366 : Value).ownBlock ∧ k_ ≠ gb360) (Kd.R_N (Kd.R_bound ho0)) (fun k_ hk_ => ⟨(.inr (Nat.le_trans (below_size pB) hk_.2.1)), (Kd.fresh' (Kd.N_lt (pN HO367.out)) k_ hk_.2.1), (Kd.freshB (g := gb360) (o := .cells #[.int .u64 a0_0, .int .u64 a0_1, .slice A0_2 l0_2.length c0_2, .int .i64 a0_3, .int .u64 a0_4, .string a0_5, .slice A0_6 l0_6.length c0_6, .int .i64 a0_7, .int .u64 a0_8, .string a0_9, .slice A0_10 l0_10.length c0_10] 28 (0, 0)) (pK BK360.out) k_ hk_.2.1)⟩)) (below_size pB))
    have n4_ := Aside0.mk (pkb BK360.out hb)
    have n5_ := Aside0.mk (below_step pB hb)
    clear HO0_6 HO0_10 HO367 BK360 HB; have HO0_6 := n0_; have HO0_10 := n1_; have HO367 := n2_; have HO373 := n3_; have BK360 := n4_; have HB := n5_; clear n0_ n1_ n2_ n3_ n4_ n5_; (try clear hb); (try clear hb2); (try clear hk); (try clear hi); (try clear ho0)
    refine hK.out _ _ ⟨cz0 BK360.out, cz1 BK360.out, cz2 BK360.out, cz3 BK360.out, cz4 BK360.out, cz5 BK360.out, cz6 BK360.out, cz7 BK360.out, cz8 BK360.out, cz9 BK360.out, cz10 BK360.out⟩ (fun hHeld => ?_)
    clear hK K
    refine norm_ (a' := ?_) ?_ ?_
    rotate_left
    ·show Act.put _ (some 19) _ = _
     exact pA
    refine one_ (i := 8) (N := some 22) #[true, true, true, true, true, true, true, true, true, true, true, true, true, false, false, false, false, false, false, false, false] rfl rfl (one_of HT_.out (by kernel_rfl)) (by decide) (fun K hK => ?_)
    refine goes_ Tryd.func34 (by kernel_rfl) rfl #[.slice A0_2 l0_2.length c0_2] (by rfl) rfl rfl pM ?_
    with_reducible refine (minstrelref19_members.calls k _ _ l0_2 t374 t375 t376 t377 _ ?side1 ?side2 A9.out).mono ?_
    (case side1 => exact pC (Kd.C_below HR0_2.out HB.out))
    (case side2 => exact HC0_2.out)
    rintro e w53 ⟨v378, rfl, ho0, hb⟩
    refine ⟨_, rfl, ?_⟩
    have n0_ := Aside0.mk (Kd.V_below (pV HO0_6.out) hb)
    have n1_ := Aside0.mk (Kd.V_below (pV HO0_10.out) hb)
    have n2_ := Aside0.mk (Kd.N_below (pN HO367.out) hb)
    have n3_ := Aside0.mk (Kd.N_below (pN HO373.out) hb)
    have n4_ := Aside0.mk (Kd.V_lower (Kd.V_mono (ok' := fun k_ => ((P0_6_ k_ ∨ P0_10_ k_) ∨ w.heap.size ≤ k_) ∧ some k_ ≠ (v366 : Value).ownBlock ∧ some k_ ≠ (v372 : Value).ownBlock ∧ k_ ≠ gb360) ho0 (fun k_ hk_ => ⟨(.inr (Nat.le_trans (below_size pB) hk_)), (Kd.fresh' (Kd.N_lt (pN HO367.out)) k_ hk_), (Kd.fresh' (Kd.N_lt (pN HO373.out)) k_ hk_), (Kd.freshB (g := gb360) (o := .cells #[.int .u64 a0_0, .int .u64 a0_1, .slice A0_2 l0_2.length c0_2, .int .i64 a0_3, .int .u64 a0_4, .string a0_5, .slice A0_6 l0_6.length c0_6, .int .i64 a0_7, .int .u64 a0_8, .string a0_9, .slice A0_10 l0_10.length c0_10] 28 (0, 0)) (pK BK360.out) k_ hk_)⟩)) (below_size pB))
    have n5_ := Aside0.mk (pkb BK360.out hb)
    have n6_ := Aside0.mk (below_step pB hb)
    clear HO0_6 HO0_10 HO367 HO373 BK360 HB; have HO0_6 := n0_; have HO0_10 := n1_; have HO367 := n2_; have HO373 := n3_; have HO379 := n4_; have BK360 := n5_; have HB := n6_; clear n0_ n1_ n2_ n3_ n4_ n5_ n6_; (try clear hb); (try clear hb2); (try clear hk); (try clear hi); (try clear ho0)
    obtain ⟨Ao54, co54, eo54⟩ := Kd.N_slice HO367.out
    (first | subst eo54 | (injection eo54 with f1_ f2_ f3_; have f4_ := f1_.symm; have f5_ := f3_.symm; clear f1_ f2_ f3_; subst f4_; subst f5_))
    obtain ⟨Ao55, co55, eo55⟩ := Kd.N_slice HO373.out
    (first | subst eo55 | (injection eo55 with f1_ f2_ f3_; have f4_ := f1_.symm; have f5_ := f3_.symm; clear f1_ f2_ f3_; subst f4_; subst f5_))
    obtain ⟨Ao56, co56, eo56⟩ := Kd.V_slice HO379.out
    (first | subst eo56 | (injection eo56 with f1_ f2_ f3_; have f4_ := f1_.symm; have f5_ := f3_.symm; clear f1_ f2_ f3_; subst f4_; subst f5_))
    refine hK.out _ _ ⟨cz0 BK360.out, cz1 BK360.out, cz2 BK360.out, cz3 BK360.out, cz4 BK360.out, cz5 BK360.out, cz6 BK360.out, cz7 BK360.out, cz8 BK360.out, cz9 BK360.out, cz10 BK360.out⟩ (fun hHeld => ?_)
    clear hK K
    refine norm_ (a' := ?_) ?_ ?_
    rotate_left
    ·show Act.put _ (some 22) _ = _
     exact pA
    refine one_ (i := 13) (N := some 27) #[true, true, true, true, true, true, true, true, true, true, true, true, true, true, false, false, false, false, false, false, false] rfl rfl (one_of HT_.out (by kernel_rfl)) (by decide) (fun K hK => ?_)
    refine Kd.N_lit_step k26 _ 26 ?hg (N' := 27) ?hd (xs := ([(⟨t362, t363, t364, t365⟩ : S26), (⟨t368, t369, t370, t371⟩ : S26), (⟨t374, t375, t376, t377⟩ : S26), (⟨a0_3, a0_4, a0_5, l0_6⟩ : S26), (⟨a0_7, a0_8, a0_9, l0_10⟩ : S26)] : List (S26))) (inner := [.int .i64 t362, .int .u64 t363, .string t364, .slice Ao54 t365.length co54, .int .i64 t368, .int .u64 t369, .string t370, .slice Ao55 t371.length co55, .int .i64 t374, .int .u64 t375, .string t376, .slice Ao56 t377.length co56, .int .i64 a0_3, .int .u64 a0_4, .string a0_5, .slice A0_6 l0_6.length c0_6, .int .i64 a0_7, .int .u64 a0_8, .string a0_9, .slice A0_10 l0_10.length c0_10]) (ok := (fun k_ => ((P0_6_ k_ ∨ P0_10_ k_) ∨ w.heap.size ≤ k_) ∧ k_ ≠ gb360)) (okp := (fun k_ => ((P0_6_ k_ ∨ P0_10_ k_) ∨ w.heap.size ≤ k_) ∧ k_ ≠ gb360)) ?hr ?hp (fun _ hk => hk) ((show ∀ k_, w53.heap.size ≤ k_ → (fun k_ => ((P0_6_ k_ ∨ P0_10_ k_) ∨ w.heap.size ≤ k_) ∧ k_ ≠ gb360) k_ from fun k_ hk => ⟨(.inr (Nat.le_trans (below_size pB) hk)), Kd.freshB (g := gb360) (o := .cells #[.int .u64 a0_0, .int .u64 a0_1, .slice A0_2 l0_2.length c0_2, .int .i64 a0_3, .int .u64 a0_4, .string a0_5, .slice A0_6 l0_6.length c0_6, .int .i64 a0_7, .int .u64 a0_8, .string a0_9, .slice A0_10 l0_10.length c0_10] 28 (0, 0)) (pK BK360.out) k_ hk⟩) _ (Nat.le_refl _)) (Below.refl _ _) (Nat.le_refl _) (by simp) ?_; (case hd => rfl); (case hg => rfl); (case hr => first | (go_simp; done) | (go_simp; rfl)); (case hp => exact (Reps.c4 (show Kd.FK k26 _ _ (⟨t362, t363, t364, t365⟩ : S26) [.int .i64 t362, .int .u64 t363, .string t364, .slice Ao54 t365.length co54] from (k26_mkF _ _ (⟨t362, t363, t364, t365⟩ : S26) (Kd.N_reads' (Kd.N_mono (ok' := (fun k_ => ((P0_6_ k_ ∨ P0_10_ k_) ∨ w.heap.size ≤ k_) ∧ k_ ≠ gb360)) (HO367.out) (fun k_ hk => ⟨hk.1.1, hk.1.2⟩))).2.1 (Kd.N_F (Kd.N_mono (ok' := (fun k_ => ((P0_6_ k_ ∨ P0_10_ k_) ∨ w.heap.size ≤ k_) ∧ k_ ≠ gb360)) (HO367.out) (fun k_ hk => ⟨hk.1.1, hk.1.2⟩))))) (Reps.c4 (show Kd.FK k26 _ _ (⟨t368, t369, t370, t371⟩ : S26) [.int .i64 t368, .int .u64 t369, .string t370, .slice Ao55 t371.length co55] from (k26_mkF _ _ (⟨t368, t369, t370, t371⟩ : S26) (Kd.N_reads' (Kd.N_mono (ok' := (fun k_ => ((P0_6_ k_ ∨ P0_10_ k_) ∨ w.heap.size ≤ k_) ∧ k_ ≠ gb360)) (HO373.out) (fun k_ hk => ⟨hk.1, hk.2.2⟩))).2.1 (Kd.N_F (Kd.N_mono (ok' := (fun k_ => ((P0_6_ k_ ∨ P0_10_ k_) ∨ w.heap.size ≤ k_) ∧ k_ ≠ gb360)) (HO373.out) (fun k_ hk => ⟨hk.1, hk.2.2⟩))))) (Reps.c4 (show Kd.FK k26 _ _ (⟨t374, t375, t376, t377⟩ : S26) [.int .i64 t374, .int .u64 t375, .string t376, .slice Ao56 t377.length co56] from (k26_mkF _ _ (⟨t374, t375, t376, t377⟩ : S26) (Kd.V_reads' (Kd.V_mono (ok' := (fun k_ => ((P0_6_ k_ ∨ P0_10_ k_) ∨ w.heap.size ≤ k_) ∧ k_ ≠ gb360)) (HO379.out) (fun k_ hk => ⟨hk.1, hk.2.2.2⟩))).2.1 (Kd.V_F (Kd.V_mono (ok' := (fun k_ => ((P0_6_ k_ ∨ P0_10_ k_) ∨ w.heap.size ≤ k_) ∧ k_ ≠ gb360)) (HO379.out) (fun k_ hk => ⟨hk.1, hk.2.2.2⟩))))) (Reps.c4 (show Kd.FK k26 _ _ (⟨a0_3, a0_4, a0_5, l0_6⟩ : S26) [.int .i64 a0_3, .int .u64 a0_4, .string a0_5, .slice A0_6 l0_6.length c0_6] from (k26_mkF _ _ (⟨a0_3, a0_4, a0_5, l0_6⟩ : S26) (Kd.V_reads' (Kd.V_mono (ok' := (fun k_ => ((P0_6_ k_ ∨ P0_10_ k_) ∨ w.heap.size ≤ k_) ∧ k_ ≠ gb360)) (HO0_6.out) (fun k_ hk => ⟨hk.1.1.1, hk.1.1.2⟩))).2.1 (Kd.V_F (Kd.V_mono (ok' := (fun k_ => ((P0_6_ k_ ∨ P0_10_ k_) ∨ w.heap.size ≤ k_) ∧ k_ ≠ gb360)) (HO0_6.out) (fun k_ hk => ⟨hk.1.1.1, hk.1.1.2⟩))))) (Reps.c4 (show Kd.FK k26 _ _ (⟨a0_7, a0_8, a0_9, l0_10⟩ : S26) [.int .i64 a0_7, .int .u64 a0_8, .string a0_9, .slice A0_10 l0_10.length c0_10] from (k26_mkF _ _ (⟨a0_7, a0_8, a0_9, l0_10⟩ : S26) (Kd.V_reads' (Kd.V_mono (ok' := (fun k_ => ((P0_6_ k_ ∨ P0_10_ k_) ∨ w.heap.size ≤ k_) ∧ k_ ≠ gb360)) (HO0_10.out) (fun k_ hk => ⟨hk.1.1.1, hk.1.1.2⟩))).2.1 (Kd.V_F (Kd.V_mono (ok' := (fun k_ => ((P0_6_ k_ ∨ P0_10_ k_) ∨ w.heap.size ≤ k_) ∧ k_ ≠ gb360)) (HO0_10.out) (fun k_ hk => ⟨hk.1.1.1, hk.1.1.2⟩))))) (Reps.none _ _)))))))
    intro v381 w57 ho58 hb hg_ hnew_
    clear hg_ hnew_
    (first | rw [← Ny380.out] at ho58 | (simp only [Int.reduceToNat] at ho58; rw [← Ny380.out] at ho58))
    have n0_ := Aside0.mk (Kd.V_elder' (pV HO0_6.out) (by first | exact Kd.R_base ho58 | exact Kd.N_base ho58) hb)
    have n1_ := Aside0.mk (Kd.V_elder' (pV HO0_10.out) (by first | exact Kd.R_base ho58 | exact Kd.N_base ho58) hb)
    have n2_ := Aside0.mk (Kd.V_elder' (pV HO379.out) (by first | exact Kd.R_base ho58 | exact Kd.N_base ho58) hb)
    have n3_ := Aside0.mk (Kd.N_lower ho58 (below_size pB))
    have n4_ := Aside0.mk (pkb BK360.out hb)
    have n5_ := Aside0.mk (below_step pB hb)
    clear HO0_6 HO0_10 HO379 BK360 HB HO367 HO373; have HO0_6 := n0_; have HO0_10 := n1_; have HO379 := n2_; have HO382 := n3_; have BK360 := n4_; have HB := n5_; clear n0_ n1_ n2_ n3_ n4_ n5_ hb ho58
    obtain ⟨Ao59, co59, eo59⟩ := Kd.N_slice HO382.out
    (first | subst eo59 | (injection eo59 with f1_ f2_ f3_; have f4_ := f1_.symm; have f5_ := f3_.symm; clear f1_ f2_ f3_; subst f4_; subst f5_))
    refine hK.out _ _ ⟨cz0 BK360.out, cz1 BK360.out, cz2 BK360.out, cz3 BK360.out, cz4 BK360.out, cz5 BK360.out, cz6 BK360.out, cz7 BK360.out, cz8 BK360.out, cz9 BK360.out, cz10 BK360.out⟩ (fun hHeld => ?_)
    clear hK K
    refine norm_ (a' := ?_) ?_ ?_
    rotate_left
    ·show Act.put _ (some 27) _ = _
     exact pA
    refine one_ (i := 14) (N := some 28) #[true, true, true, true, true, true, true, true, true, true, true, true, true, true, true, false, false, false, false, false, false] rfl rfl (one_of HT_.out (by kernel_rfl)) (by decide) (fun K hK => ?_)
    refine goes_ Tryd.func32 (by kernel_rfl) rfl #[.slice Ao59 y380.length co59] (by rfl) rfl rfl pM ?_
    with_reducible refine (minstrelref07_List.calls (fun k_ => (((P0_6_ k_ ∨ P0_10_ k_) ∨ w.heap.size ≤ k_) ∧ k_ ≠ gb360)) _ _ y380 t383 t384 t385 t386 _ ?side1 A10.out).mono ?_
    (case side1 => exact Kd.N_V (HO382.out))
    rintro e w60 ⟨v387, rfl, ho0, hb⟩
    refine ⟨_, rfl, ?_⟩
    have n0_ := Aside0.mk (Kd.V_below (pV HO0_6.out) hb)
    have n1_ := Aside0.mk (Kd.V_below (pV HO0_10.out) hb)
    have n2_ := Aside0.mk (Kd.V_below (pV HO379.out) hb)
    have n3_ := Aside0.mk (Kd.N_below (pN HO382.out) hb)
    have n4_ := Aside0.mk (Kd.V_lower (Kd.V_mono (ok' := fun k_ => ((P0_6_ k_ ∨ P0_10_ k_) ∨ w.heap.size ≤ k_) ∧ k_ ≠ gb360) ho0 (fun k_ hk_ => ⟨Or.elim hk_ (fun hs_ => hs_.1) (fun hn_ => (.inr (Nat.le_trans (below_size pB) hn_))), Or.elim hk_ (fun hs_ => hs_.2) (fun hn_ => (Kd.freshB (g := gb360) (o := .cells #[.int .u64 a0_0, .int .u64 a0_1, .slice A0_2 l0_2.length c0_2, .int .i64 a0_3, .int .u64 a0_4, .string a0_5, .slice A0_6 l0_6.length c0_6, .int .i64 a0_7, .int .u64 a0_8, .string a0_9, .slice A0_10 l0_10.length c0_10] 28 (0, 0)) (pK BK360.out) k_ hn_))⟩)) (below_size pB))
    have n5_ := Aside0.mk (pkb BK360.out hb)
    have n6_ := Aside0.mk (below_step pB hb)
    clear HO0_6 HO0_10 HO379 HO382 BK360 HB; have HO0_6 := n0_; have HO0_10 := n1_; have HO379 := n2_; have HO382 := n3_; have HO388 := n4_; have BK360 := n5_; have HB := n6_; clear n0_ n1_ n2_ n3_ n4_ n5_ n6_; (try clear hb); (try clear hb2); (try clear hk); (try clear hi); (try clear ho0)
    obtain ⟨Ao61, co61, eo61⟩ := Kd.V_slice HO388.out
    (first | subst eo61 | (injection eo61 with f1_ f2_ f3_; have f4_ := f1_.symm; have f5_ := f3_.symm; clear f1_ f2_ f3_; subst f4_; subst f5_))
    refine hK.out _ _ ⟨cz0 BK360.out, cz1 BK360.out, cz2 BK360.out, cz3 BK360.out, cz4 BK360.out, cz5 BK360.out, cz6 BK360.out, cz7 BK360.out, cz8 BK360.out, cz9 BK360.out, cz10 BK360.out⟩ (fun hHeld => ?_)
    clear hK K
    refine norm_ (a' := ?_) ?_ ?_
    rotate_left
    ·show Act.put _ (some 28) _ = _
     exact pA
    refine one_ (i := 15) (N := some 29) #[true, true, true, true, true, true, true, true, true, true, true, true, true, true, true, true, false, false, false, false, false] rfl rfl (one_of HT_.out (by kernel_rfl)) (by decide) (fun K hK => ?_)
    refine goes_ Tryd.func31 (by kernel_rfl) rfl #[.agg #[.int .i64 t383, .int .u64 t384, .string t385, .slice Ao61 t386.length co61]] (by rfl) rfl rfl pM ?_
    with_reducible refine (minstrelref07_Encode.calls k t383 t384 t385 _ _ t386 t389 t392 _ ?side1 ?side2 A11.out).mono ?_
    (case side1 => repeat (first | exact (Kd.V_reads' HO388.out).2.2 | (with_reducible refine Kd.C_alloc ?_ _) | (with_reducible refine Kd.C_drewN ?_ _) | (with_reducible refine Kd.C_drew ?_)))
    (case side2 => exact (Kd.V_reads' HO388.out).2.1)
    rintro e w62 ⟨v390, rfl, ho0, hb⟩
    refine ⟨_, rfl, ?_⟩
    have n0_ := Aside0.mk (Kd.V_elder' (pV HO0_6.out) (Kd.R_base ho0) hb)
    have n1_ := Aside0.mk (Kd.V_elder' (pV HO0_10.out) (Kd.R_base ho0) hb)
    have n2_ := Aside0.mk (Kd.V_elder' (pV HO379.out) (Kd.R_base ho0) hb)
    have n3_ := Aside0.mk (Kd.N_elder' (pN HO382.out) (Kd.R_base ho0) hb)
    have n4_ := Aside0.mk (Kd.V_elder' (pV HO388.out) (Kd.R_base ho0) hb)
    have n5_ := Aside0.mk (Kd.R_lower (Kd.R_newM (M := fun k_ => (w.heap.size ≤ k_)) ho0 (below_size pB) (fun k_ h_ => h_)) (below_size pB))
    have n6_ := Aside0.mk (pkb BK360.out hb)
    have n7_ := Aside0.mk (below_step pB hb)
    clear HO0_6 HO0_10 HO379 HO382 HO388 BK360 HB; have HO0_6 := n0_; have HO0_10 := n1_; have HO379 := n2_; have HO382 := n3_; have HO388 := n4_; have HO391 := n5_; have BK360 := n6_; have HB := n7_; clear n0_ n1_ n2_ n3_ n4_ n5_ n6_ n7_; (try clear hb); (try clear hb2); (try clear hk); (try clear hi); (try clear ho0)
    refine hK.out _ _ ⟨cz0 BK360.out, cz1 BK360.out, cz2 BK360.out, cz3 BK360.out, cz4 BK360.out, cz5 BK360.out, cz6 BK360.out, cz7 BK360.out, cz8 BK360.out, cz9 BK360.out, cz10 BK360.out⟩ (fun hHeld => ?_)
    clear hK K
    refine norm_ (a' := ?_) ?_ ?_
    rotate_left
    ·show Act.put _ (some 29) _ = _
     exact pA
    refine pure_ (i := 16) (N := some 13) (v := ?_) (a' := ?_) #[true, true, true, true, true, true, true, true, true, true, true, true, true, true, true, true, true, false, false, false, false] rfl rfl (any_of HT_.out (by kernel_rfl)) (fun _ _ _ h => h) (Or.inl ⟨by kernel_rfl, ?_⟩) ?_ ?_
    rotate_left
    ·intro w'
     go_simp
     with_reducible rfl
    rotate_left
    ·exact pA
    refine pure_ (i := 17) (N := some 30) (v := ?_) (a' := ?_) #[true, true, true, true, true, true, true, true, true, true, true, true, true, true, true, true, true, true, false, false, false] rfl rfl (any_of HT_.out (by kernel_rfl)) (fun _ _ _ h => h) (Or.inl ⟨by kernel_rfl, ?_⟩) ?_ ?_
    rotate_left
    ·intro w'
     go_simp
     with_reducible rfl
    rotate_left
    ·exact pA
    refine pure_ (i := 18) (N := some 31) (v := ?_) (a' := ?_) #[true, true, true, true, true, true, true, true, true, true, true, true, true, true, true, true, true, true, true, false, false] rfl rfl (any_of HT_.out (by kernel_rfl)) (fun _ _ _ h => h) (Or.inl ⟨by kernel_rfl, ?_⟩) ?_ ?_
    rotate_left
    ·intro w'
     go_simp
     with_reducible rfl
    rotate_left
    ·exact pA
    refine pure_ (i := 19) (N := some 4) (v := ?_) (a' := ?_) #[true, true, true, true, true, true, true, true, true, true, true, true, true, true, true, true, true, true, true, true, false] rfl rfl (any_of HT_.out (by kernel_rfl)) (fun _ _ _ h => h) (Or.inl ⟨by kernel_rfl, ?_⟩) ?_ ?_
    rotate_left
    ·intro w'
     go_simp
     with_reducible rfl
    rotate_left
    ·exact pA
    refine pure_ (i := 20) (N := some 5) (v := ?_) (a' := ?_) #[true, true, true, true, true, true, true, true, true, true, true, true, true, true, true, true, true, true, true, true, true] rfl rfl (any_of HT_.out (by kernel_rfl)) (fun _ _ _ h => h) (Or.inl ⟨by kernel_rfl, ?_⟩) ?_ ?_
    rotate_left
    ·intro w'
     go_simp
     with_reducible rfl
    rotate_left
    ·exact pA
    refine done_ (done_of HT_.out (by kernel_rfl)) ?_
    try go_wp2
    go_ret2
    exact ⟨_, pE, pZ, pB⟩
 ·replace c3 := Bool.eq_false_iff.mpr c3
  subst c3
  have H1 : (some (([] : List Int), 1)) = some (r1, r2) := by rw [if_neg (show ¬ (false = true) by decide)] at H; exact H
  clear H
  have H := H1
  clear H1
  simp only [Option.some.injEq, Prod.mk.injEq] at H
  obtain ⟨rfl, rfl⟩ := H
  go_enter Tryd.func11, Tryd.ntmps11
  go_wp2_with (first | ((with_reducible refine gate_dst (N := 1) rfl ?_); refine box_event ?hg (N := 1) ?hd (cs := #[.int .u64 a0_0, .int .u64 a0_1, .slice A0_2 l0_2.length c0_2, .int .i64 a0_3, .int .u64 a0_4, .string a0_5, .slice A0_6 l0_6.length c0_6, .int .i64 a0_7, .int .u64 a0_8, .string a0_9, .slice A0_10 l0_10.length c0_10]) (t := 28) ?hr ?_; (case hd => rfl); (case hg => rfl); (case hr => first | (go_simp; done) | (go_simp; rfl)); intro gb360 hg w63 hbox hb; have n0_ := Aside0.mk (Kd.V_below (Kd.V_elderB (pV HO0_6.out) gb360 (Nat.le_of_eq hg.symm)) hb); have n1_ := Aside0.mk (Kd.V_below (Kd.V_elderB (pV HO0_10.out) gb360 (Nat.le_of_eq hg.symm)) hb); have n2_ := Aside0.mk (below_step pB hb); have n3_ := Aside0.mk (hbox); have n4_ := Aside0.mk ((by rw [hg]; exact (below_size pB) : w.heap.size ≤ gb360)); have n5_ := Aside0.mk ((by rw [hg]; exact (below_size pB) : w.heap.size ≤ gb360)); clear HO0_6; clear HO0_10; clear HB; have HO0_6 := n0_; have HO0_10 := n1_; have HB := n2_; have BK360 := n3_; have GW360 := n4_; have GE360 := n5_; clear n0_ n1_ n2_ n3_ n4_ n5_; clear hb hbox hg; obtain ⟨hcz64_0, hcz64_1, hcz64_2, hcz64_3, hcz64_4, hcz64_5, hcz64_6, hcz64_7, hcz64_8, hcz64_9, hcz64_10, hfz64_0, hfz64_1, hfz64_2, hfz64_3, hfz64_4, hfz64_5, hfz64_6, hfz64_7, hfz64_8, hfz64_9, hfz64_10⟩ := cf11 BK360.out) | ((with_reducible refine gate_callee (f := 13) rfl ?_); refine goesL_ (some 8) rfl rfl Tryd.func13 (by kernel_rfl) rfl #[.slice A0_2 l0_2.length c0_2] rfl pM ?_; (with_reducible refine (minstrelref19_Members.calls k _ _ l0_2 false _ ?side1 ?side2 A2.out).mono ?_); (case side1 => exact pC (Kd.C_below HR0_2.out HB.out)); (case side2 => exact HC0_2.out); rintro e w' ⟨rfl, ⟨nd, rfl⟩⟩; refine ⟨_, rfl, ?_⟩))
  go_ret2
  exact ⟨_, pE, pZ, pB⟩
end Go.Proofs.YtlkaffbgekbcfaaDoor.Pr
end
section
namespace Go.Proofs.YtlkaffbgekbcfaaDoor.Pure
open Go.RowKit Go.Proofs.YtlkaffbgekbcfaaDoor.Pr Go.Proofs.YtlkaffbgekbcfaaDoorW.PrintWords Go.Proofs.YtlkaffbgekbcfaaDoorW.PrintLast Go.Proofs.YtlkaffbgekbcfaaDoorW.PrintMore
set_option linter.unusedVariables false
set_option linter.unusedSimpArgs false
def canL : Int → List Int → Bool
  | _, [] => true
  | last, n :: r => if n ≤ last then false else if n > 64 then false else canL n r
def memB (l : List Int) : Bool := canL 0 l && decide ((l.length : Int) > 0)
theorem canL_len : ∀ (l : List Int) (last : Int), canL last l = true → 0 ≤ last → (l = [] ∨ last + l.length ≤ 64) ∧ ∀ x ∈ l, 0 < x ∧ x ≤ 64
  | [], last, h, h0 => ⟨.inl rfl, fun x hx => by cases hx⟩
  | n :: r, last, h, h0 => by
    rw [canL] at h
    by_cases h1 : n ≤ last
    · simp [h1] at h
    · rw [if_neg h1] at h
      by_cases h2 : n > 64
      · simp [h2] at h
      · rw [if_neg h2] at h
        obtain ⟨ha, hb⟩ := canL_len r n h (by omega)
        refine ⟨.inr ?_, fun x hx => ?_⟩
        · rcases ha with rfl | ha
          · simp; omega
          · simp only [List.length_cons]; omega
        · rcases List.mem_cons.1 hx with rfl | hx
          · exact ⟨by omega, by omega⟩
          · exact hb x hx
theorem memB_facts {l : List Int} (h : memB l = true) : 0 < l.length ∧ l.length ≤ 64 ∧ ∀ x ∈ l, 0 < x ∧ x ≤ 64 := by
  simp only [memB, Bool.and_eq_true, decide_eq_true_eq] at h
  obtain ⟨ha, hb⟩ := canL_len l 0 h.1 (by omega)
  refine ⟨by omega, ?_, hb⟩
  rcases ha with rfl | ha
  · simp
  · omega
theorem can_loop (l : List Int) (hl : l.length ≤ 9223372036854775807) : ∀ (m : Nat) (i last : Int), 0 ≤ i → i + m = l.length → Ev (fun k => snap_can.l0 k l last l (l.length : Int) i) (canL last (l.drop i.toNat) && decide ((l.length : Int) > 0))
  | 0, i, last, h0, hm => by
    have hd : l.drop i.toNat = [] := List.drop_eq_nil_of_le (by omega)
    rw [hd, canL, Bool.true_and]
    refine Ev.step (f := fun k => some (decide ((l.length : Int) > 0))) (fun k => ?_) (Ev.now _)
    rw [snap_can.l0, if_neg (by omega)]
  | m + 1, i, last, h0, hm => by
    have e1 := Aside0.mk (wrap64_in (i + 1) (by omega) (by omega))
    rw [drop_rdI l i h0 (by omega), canL]
    generalize hn : rd l i = n
    by_cases h1 : n ≤ last
    · rw [if_pos h1]
      refine Ev.step (f := fun k => some false) (fun k => ?_) (Ev.now _)
      rw [snap_can.l0, if_pos (by omega), if_pos h0, if_pos (by omega), hn, if_pos h1]
    · rw [if_neg h1]
      by_cases h2 : n > 64
      · rw [if_pos h2]
        refine Ev.step (f := fun k => some false) (fun k => ?_) (Ev.now _)
        rw [snap_can.l0, if_pos (by omega), if_pos h0, if_pos (by omega), hn, if_neg h1, if_pos h2]
      · rw [if_neg h2]
        refine Ev.step (f := fun k => snap_can.l0 k l n l (l.length : Int) (i + 1)) (fun k => ?_) (can_loop l hl m (i + 1) n (by omega) (by omega))
        rw [snap_can.l0, if_pos (by omega), if_pos h0, if_pos (by omega), hn, if_neg h1, if_neg h2, e1.out]
theorem can_ev (l : List Int) (hl : l.length ≤ 9223372036854775807) : Ev (fun k => snap_can.f k l) (memB l) := by
  have := can_loop l hl l.length 0 0 (by omega) (by omega)
  exact Ev.congr (fun k => by unfold snap_can.f; rfl) this
def numC (n : Int) : S26 := ⟨0, n, ⟨#[]⟩, []⟩
theorem wrapU (n : Int) (h0 : 0 < n) (h1 : n ≤ 64) : IntKind.u64.wrap n = n := by
  simp only [IntKind.wrap, IntKind.signed, IntKind.bits, Bool.false_eq_true, if_false]
  exact Int.emod_eq_of_lt (by omega) (by omega)
theorem members_loop (l : List Int) (hl : l.length ≤ 64) (hr : ∀ x ∈ l, 0 < x ∧ x ≤ 64) : ∀ (m : Nat) (i : Int) (acc : List S26), 0 ≤ i → i + m = l.length → acc.length + m ≤ 64 → Ev (fun k => snap_members.l0 k l (l.length : Int) i 2 0 ⟨#[]⟩ acc) (2, 0, ⟨#[]⟩, acc ++ (l.drop i.toNat).map numC)
  | 0, i, acc, h0, hm, ha => by
    have hd : l.drop i.toNat = [] := List.drop_eq_nil_of_le (by omega)
    rw [hd, List.map_nil, List.append_nil]
    refine Ev.step (f := fun k => some (2, 0, ⟨#[]⟩, acc)) (fun k => ?_) (Ev.now _)
    rw [snap_members.l0, if_neg (by omega)]
  | m + 1, i, acc, h0, hm, ha => by
    have e1 := Aside0.mk (wrap64_in (i + 1) (by omega) (by omega))
    have hx := hr (rd l i) (by
      have := drop_rdI l i h0 (by omega)
      exact List.mem_of_mem_drop (by rw [this]; exact List.mem_cons_self))
    rw [drop_rdI l i h0 (by omega), List.map_cons, List.append_cons]
    refine Ev.step (f := fun k => snap_members.l0 k l (l.length : Int) (i + 1) 2 0 ⟨#[]⟩ (acc ++ [numC (rd l i)])) (fun k => ?_) (members_loop l hl hr m (i + 1) (acc ++ [numC (rd l i)]) (by omega) (by omega) (by rw [List.length_append, List.length_singleton]; omega))
    rw [snap_members.l0, if_pos (by omega), if_pos h0, if_pos (by omega), wrapU _ hx.1 hx.2, code_Number.f, Option.bind_some, if_pos (by omega), e1.out]
    rfl
theorem members_ev (l : List Int) (h : memB l = true) : Ev (fun k => snap_members.f k l) (2, 0, ⟨#[]⟩, l.map numC) := by
  obtain ⟨h0, h1, h2⟩ := memB_facts h
  have := members_loop l h1 h2 l.length 0 [] (by omega) (by omega) (by simpa using h1)
  exact Ev.congr (fun k => by unfold snap_members.f; rfl) this
end Go.Proofs.YtlkaffbgekbcfaaDoor.Pure
end
section
namespace Go.Proofs.YtlkaffbgekbcfaaDoor.Pure
open Go.RowKit Go.Proofs.YtlkaffbgekbcfaaDoor.Pr Go.Proofs.YtlkaffbgekbcfaaDoorW.PrintWords Go.Proofs.YtlkaffbgekbcfaaDoorW.PrintLast Go.Proofs.YtlkaffbgekbcfaaDoorW.PrintMore
set_option linter.unusedVariables false
set_option linter.unusedSimpArgs false
def membersC (l : List Int) : S26 := ⟨2, 0, ⟨#[]⟩, l.map numC⟩
def topC (i t : Int) (l : List Int) (s u : S26) : S26 := ⟨2, 0, ⟨#[]⟩, [numC i, numC t, membersC l, s, u]⟩
theorem wf_small (n : Int) (h0 : 0 < n) (h1 : n ≤ 64) : (Lit.int .u64 n).wf = true := by
  simp [Lit.wf, IntKind.min, IntKind.max, IntKind.signed, IntKind.bits]
  omega
theorem wfc_num (n : Int) (h : (Lit.int .u64 n).wf = true) : ∀ j, wfc j (numC n)
  | 0 => trivial
  | j + 1 => ⟨rfl, h, Nat.zero_le _, Nat.zero_le _, fun x hx => by cases hx⟩
theorem wfc_members {l : List Int} (h : memB l = true) : ∀ j, wfc j (membersC l)
  | 0 => trivial
  | j + 1 => by
    obtain ⟨_, h1, h2⟩ := memB_facts h
    refine ⟨rfl, rfl, Nat.zero_le _, ?_, fun x hx => ?_⟩
    · show (l.map numC).length ≤ maxLen
      rw [List.length_map]
      exact Nat.le_trans h1 (by decide)
    · obtain ⟨n, hn, rfl⟩ := List.mem_map.1 hx
      exact wfc_num n (wf_small n (h2 n hn).1 (h2 n hn).2) j
structure SnapOk (i t : Int) (s u : S26) : Prop where
  wi : (Lit.int .u64 i).wf = true
  wt : (Lit.int .u64 t).wf = true
  ws : ∀ j, wfc j s
  wu : ∀ j, wfc j u
  zs : ∀ j, szc j s
  zu : ∀ j, szc j u
variable {i t : Int} {l : List Int} {s u : S26}
theorem wfc_top (h : SnapOk i t s u) (hm : memB l = true) : ∀ j, wfc j (topC i t l s u)
  | 0 => trivial
  | j + 1 => by
    refine ⟨rfl, rfl, Nat.zero_le _, (by show 5 ≤ maxLen; decide), fun x hx => ?_⟩
    simp only [topC, List.mem_cons, List.not_mem_nil, or_false] at hx
    rcases hx with rfl | rfl | rfl | rfl | rfl
    · exact wfc_num _ h.wi j
    · exact wfc_num _ h.wt j
    · exact wfc_members hm j
    · exact h.ws j
    · exact h.wu j
theorem dep_num (n : Int) (k : Nat) : dep (k + 1) (numC n) = true := rfl
theorem dep_members (l : List Int) (k : Nat) : dep (k + 2) (membersC l) = true := by
  rw [dep]
  simp only [List.all_eq_true]
  intro x hx
  obtain ⟨n, _, rfl⟩ := List.mem_map.1 hx
  exact dep_num n k
theorem dep_top {K : Nat} (hs : dep K s = true) (hu : dep K u = true) : dep (K + 3) (topC i t l s u) = true := by
  rw [dep]
  simp only [List.all_eq_true]
  intro x hx
  simp only [topC, List.mem_cons, List.not_mem_nil, or_false] at hx
  rcases hx with rfl | rfl | rfl | rfl | rfl
  · exact dep_num _ _
  · exact dep_num _ _
  · exact dep_members _ _
  · exact dep_le hs (by omega)
  · exact dep_le hu (by omega)
def saveV (i : Int) (l : List Int) (r : List Int × Int) : List Int × Int :=
  if memB l = true then if i > 4611686018427387904 then ([], 2) else if r.2 = 0 then (if (r.1.length : Int) > 1048320 then ([], 2) else (frameL r.1, 0)) else ([], r.2) else ([], 1)
theorem Bytes.of_bts {l : List Int} (h : Bts l) : Bytes l := fun x hx => by have := h x hx; omega
theorem wr_bytes (h : SnapOk i t s u) (hm : memB l = true) {K : Nat} {xs : List Int} (hw : wrCell K (topC i t l s u) 0 [] = some (xs, 0)) : Bytes xs ∧ xs.length ≤ 1048576 := by
  obtain ⟨e, he, hl, hr⟩ := wr_read K _ 0 [] xs (wfc_top h hm) hw
  rw [List.nil_append] at he
  subst he
  exact ⟨Bytes.of_bts hr.bts, hl⟩
theorem save_ev (h : SnapOk i t s u) (hl : l.length ≤ 9223372036854775807) {K : Nat} {r : List Int × Int} (hw : wrCell K (topC i t l s u) 0 [] = some r) :
    Ev (fun k => snap_Save.f k i t l s.f0 s.f1 s.f2 s.f3 u.f0 u.f1 u.f2 u.f3) (saveV i l r) := by
  delta snap_Save.f
  refine Ev.bind (can_ev l hl) ?_
  unfold saveV
  by_cases hm : memB l = true
  · rw [hm]
    simp only [if_true]
    by_cases hi : i > 4611686018427387904
    · simp only [if_pos hi]
      exact Ev.now _
    · simp only [if_neg hi, code_Number.f, Option.bind_some]
      simp only [eta26]
      refine Ev.bind (members_ev l hm) ?_
      have hE : Ev (fun k => code_Encode.f k 2 0 (⟨#[]⟩ : ByteArray) [⟨0, i, ⟨#[]⟩, []⟩, ⟨0, t, ⟨#[]⟩, []⟩, ⟨2, 0, ⟨#[]⟩, l.map numC⟩, s, u]) (if r.2 = 0 then (r.1, 0) else ([], r.2)) := by
        have h9 := enc_ev hw
        simp only [topC, membersC, numC] at h9
        exact h9
      refine Ev.bind hE ?_
      obtain ⟨xs, e0⟩ := r
      by_cases he : e0 = 0
      · subst he
        simp only [if_true]
        by_cases hx : (xs.length : Int) > 1048320
        · simp only [if_pos hx]
          exact Ev.now _
        · obtain ⟨hb, hlx⟩ := wr_bytes h hm hw
          simp only [if_neg hx, Frame_eq xs hb hlx, Option.bind_some]
          exact Ev.now _
      · simp only [if_neg he]
        exact Ev.now _
  · rw [Bool.not_eq_true] at hm
    rw [hm]
    simp only [Bool.false_eq_true, if_false]
    exact Ev.now _
end Go.Proofs.YtlkaffbgekbcfaaDoor.Pure
end
section
namespace Go.Proofs.YtlkaffbgekbcfaaDoor.Pr
open Go.RowKit Go.Proofs.YtlkaffbgekbcfaaDoorW.PrintWords Go.Proofs.YtlkaffbgekbcfaaDoorW.PrintLast Go.Proofs.YtlkaffbgekbcfaaDoorW.PrintMore
attribute [local go_sem] max2_int min2_int max_two min_two max_three min_three max_four min_four
set_option linter.unusedVariables false
set_option linter.unusedSimpArgs false
mutual
def minstrelref19_Same.j0 : Nat → Bool → Int → Int → ByteArray → List Int → Int → Int → ByteArray → List Int → Option (Bool)
 | 0, _, _, _, _, _, _, _, _, _ => none
 | k + 1, x33, x402000, x402001, x402002, x402003, x403000, x403001, x403002, x403003 => if x33 = true then (some false) else (minstrelref19_Same.l0 k 0 x402000 x402001 x402002 x402003 x403000 x403001 x403002 x403003)
def minstrelref19_Same.l0 : Nat → Int → Int → Int → ByteArray → List Int → Int → Int → ByteArray → List Int → Option (Bool)
 | 0, _, _, _, _, _, _, _, _, _ => none
 | k + 1, x5, x402000, x402001, x402002, x402003, x403000, x403001, x403002, x403003 => if x5 < (x402003.length : Int) then (if 0 ≤ x5 then (if x5 < (x403003.length : Int) then (if (rd x402003 x5) = (rd x403003 x5) then (minstrelref19_Same.l0 k (wrap64 (x5 + 1)) x402000 x402001 x402002 x402003 x403000 x403001 x403002 x403003) else (some false)) else (none)) else (none)) else (some true)
end
def minstrelref19_Same.f (k : Nat) (a0_0 : Int) (a0_1 : Int) (a0_2 : ByteArray) (l0_3 : List Int) (a1_0 : Int) (a1_1 : Int) (a1_2 : ByteArray) (l1_3 : List Int) : Option (Bool) := if a0_0 = a1_0 then (if a0_1 = a1_1 then (if a0_2.toList = a1_2.toList then (minstrelref19_Same.j0 k ((l0_3.length : Int) != (l1_3.length : Int)) a0_0 a0_1 a0_2 l0_3 a1_0 a1_1 a1_2 l1_3) else (minstrelref19_Same.j0 k true a0_0 a0_1 a0_2 l0_3 a1_0 a1_1 a1_2 l1_3)) else (minstrelref19_Same.j0 k true a0_0 a0_1 a0_2 l0_3 a1_0 a1_1 a1_2 l1_3)) else (minstrelref19_Same.j0 k true a0_0 a0_1 a0_2 l0_3 a1_0 a1_1 a1_2 l1_3)
theorem minstrelref19_Same.mono_l : ∀ k, (∀ y0 y1 y2 y3 y4 y5 y6 y7 y8, LeO (minstrelref19_Same.j0 k y0 y1 y2 y3 y4 y5 y6 y7 y8) (minstrelref19_Same.j0 (k + 1) y0 y1 y2 y3 y4 y5 y6 y7 y8)) ∧ (∀ y0 y1 y2 y3 y4 y5 y6 y7 y8, LeO (minstrelref19_Same.l0 k y0 y1 y2 y3 y4 y5 y6 y7 y8) (minstrelref19_Same.l0 (k + 1) y0 y1 y2 y3 y4 y5 y6 y7 y8))
 | 0 => ⟨fun _ _ _ _ _ _ _ _ _ r h => by simp [minstrelref19_Same.j0] at h, fun _ _ _ _ _ _ _ _ _ r h => by simp [minstrelref19_Same.l0] at h⟩
 | k + 1 => by
  obtain ⟨ih0, ih1⟩ := minstrelref19_Same.mono_l k
  refine ⟨?_, ?_⟩
  ·intro y0 y1 y2 y3 y4 y5 y6 y7 y8
   unfold minstrelref19_Same.j0
   repeat' first
   | (with_reducible exact ih0 _ _ _ _ _ _ _ _ _)
   | (with_reducible exact ih1 _ _ _ _ _ _ _ _ _)
   | (with_reducible exact LeO.refl _)
   | (with_reducible exact LeO.none _)
   | (with_reducible refine LeO.ite ?_ ?_)
   | (with_reducible refine LeO.bind ?_ (fun _ => ?_))
   | exact ih0 _ _ _ _ _ _ _ _ _
   | exact ih1 _ _ _ _ _ _ _ _ _
   | exact LeO.none _
   | refine LeO.ite ?_ ?_
   | refine LeO.bind ?_ (fun _ => ?_)
  ·intro y0 y1 y2 y3 y4 y5 y6 y7 y8
   unfold minstrelref19_Same.l0
   repeat' first
   | (with_reducible exact ih0 _ _ _ _ _ _ _ _ _)
   | (with_reducible exact ih1 _ _ _ _ _ _ _ _ _)
   | (with_reducible exact LeO.refl _)
   | (with_reducible exact LeO.none _)
   | (with_reducible refine LeO.ite ?_ ?_)
   | (with_reducible refine LeO.bind ?_ (fun _ => ?_))
   | exact ih0 _ _ _ _ _ _ _ _ _
   | exact ih1 _ _ _ _ _ _ _ _ _
   | exact LeO.none _
   | refine LeO.ite ?_ ?_
   | refine LeO.bind ?_ (fun _ => ?_)
theorem minstrelref19_Same.mono : ∀ a0 a1 a2 a3 a4 a5 a6 a7 k, LeO (minstrelref19_Same.f k a0 a1 a2 a3 a4 a5 a6 a7) (minstrelref19_Same.f (k + 1) a0 a1 a2 a3 a4 a5 a6 a7) := by
 intro a0 a1 a2 a3 a4 a5 a6 a7 k
 obtain ⟨ih0, ih1⟩ := minstrelref19_Same.mono_l k
 unfold minstrelref19_Same.f
 repeat' first
   | (with_reducible exact ih0 _ _ _ _ _ _ _ _ _)
   | (with_reducible exact ih1 _ _ _ _ _ _ _ _ _)
   | (with_reducible exact LeO.refl _)
   | (with_reducible exact LeO.none _)
   | (with_reducible refine LeO.ite ?_ ?_)
   | (with_reducible refine LeO.bind ?_ (fun _ => ?_))
   | exact ih0 _ _ _ _ _ _ _ _ _
   | exact ih1 _ _ _ _ _ _ _ _ _
   | exact LeO.none _
   | refine LeO.ite ?_ ?_
   | refine LeO.bind ?_ (fun _ => ?_)
set_option maxHeartbeats 8000000 in
set_option maxRecDepth 100000 in
theorem minstrelref19_Same.calls (k : Nat) (a0_0 : Int) (a0_1 : Int) (a0_2 : ByteArray) (A0_3 : Option Addr) (c0_3 : Nat) (l0_3 : List Int) (a1_0 : Int) (a1_1 : Int) (a1_2 : ByteArray) (A1_3 : Option Addr) (c1_3 : Nat) (l1_3 : List Int) (r : Bool) (w : World) (hr0_3 : Kd.C (Kd.int .i64) w A0_3 l0_3.length l0_3) (hc0_3 : l0_3.length ≤ c0_3) (hr1_3 : Kd.C (Kd.int .i64) w A1_3 l1_3.length l1_3) (hc1_3 : l1_3.length ≤ c1_3) (h : minstrelref19_Same.f k a0_0 a0_1 a0_2 l0_3 a1_0 a1_1 a1_2 l1_3 = some r) :
  Calls Tryd.prog 23 #[.agg #[.int .u64 a0_0, .int .i64 a0_1, .string a0_2, .slice A0_3 l0_3.length c0_3], .agg #[.int .u64 a1_0, .int .i64 a1_1, .string a1_2, .slice A1_3 l1_3.length c1_3]] w fun e w' => e = .returned (.bool r) ∧ Below w.heap.size w w' := by
 have hu46 := Tryd.underlying46
 have HR0_3 := Aside0.mk hr0_3
 have HC0_3 := Aside0.mk hc0_3
 clear hr0_3 hc0_3
 have HR1_3 := Aside0.mk hr1_3
 have HC1_3 := Aside0.mk hc1_3
 clear hr1_3 hc1_3
 have HB := Aside0.mk (Below.refl w.heap.size w)
 have H : (if a0_0 = a1_0 then (if a0_1 = a1_1 then (if a0_2.toList = a1_2.toList then (minstrelref19_Same.j0 k ((l0_3.length : Int) != (l1_3.length : Int)) a0_0 a0_1 a0_2 l0_3 a1_0 a1_1 a1_2 l1_3) else (minstrelref19_Same.j0 k true a0_0 a0_1 a0_2 l0_3 a1_0 a1_1 a1_2 l1_3)) else (minstrelref19_Same.j0 k true a0_0 a0_1 a0_2 l0_3 a1_0 a1_1 a1_2 l1_3)) else (minstrelref19_Same.j0 k true a0_0 a0_1 a0_2 l0_3 a1_0 a1_1 a1_2 l1_3)) = some r := h
 clear h
 have HC3 := Aside0.mk H
 clear H
 go_enter Tryd.func23, Tryd.ntmps23
 go_upto_region 1 with (first | ((with_reducible refine gate_dst (N := 2) rfl ?_); (try (refine gate_guard (by rfl) ?_; dsimp only)); refine box_event ?hg (N := 2) ?hd (cs := #[.int .u64 a0_0, .int .i64 a0_1, .string a0_2, .slice A0_3 l0_3.length c0_3]) (t := 46) ?hr ?_; (case hd => rfl); (case hg => rfl); (case hr => first | (go_simp; done) | (go_simp; rfl)); intro gb401 hg w4 hbox hb; have n0_ := Aside0.mk (below_step pB hb); have n1_ := Aside0.mk (hbox); have n2_ := Aside0.mk ((by rw [hg]; exact (below_size pB) : w.heap.size ≤ gb401)); have n3_ := Aside0.mk ((by rw [hg]; exact (below_size pB) : w.heap.size ≤ gb401)); clear HB; have HB := n0_; have BK401 := n1_; have GW401 := n2_; have GE401 := n3_; clear n0_ n1_ n2_ n3_; clear hb hbox hg) | ((with_reducible refine gate_dst (N := 3) rfl ?_); (try (refine gate_guard (by rfl) ?_; dsimp only)); refine box_event ?hg (N := 3) ?hd (cs := #[.int .u64 a1_0, .int .i64 a1_1, .string a1_2, .slice A1_3 l1_3.length c1_3]) (t := 46) ?hr ?_; (case hd => rfl); (case hg => rfl); (case hr => first | (go_simp; done) | (go_simp; rfl)); intro gb402 hg w5 hbox hb; have n0_ := Aside0.mk (pkb BK401.out hb); have n1_ := Aside0.mk (below_step pB hb); have n2_ := Aside0.mk (hbox); have n3_ := Aside0.mk ((by rw [hg]; exact (below_size pB) : w.heap.size ≤ gb402)); have n4_ := Aside0.mk ((by rw [hg]; exact (below_size pB) : w.heap.size ≤ gb402)); have n5_ := Aside0.mk ((by rw [hg]; exact Nat.ne_of_lt (pkl BK401.out) : gb401 ≠ gb402)); have n6_ := Aside0.mk ((by rw [hg]; exact Nat.ne_of_gt (pkl BK401.out) : gb402 ≠ gb401)); clear BK401; clear HB; have BK401 := n0_; have HB := n1_; have BK402 := n2_; have GW402 := n3_; have GE402 := n4_; have NB401_402 := n5_; have NB402_401 := n6_; clear n0_ n1_ n2_ n3_ n4_ n5_ n6_; clear hb hbox hg))
 repeat (go_quiet (first | ((with_reducible refine gate_dst (N := 2) rfl ?_); (try (refine gate_guard (by rfl) ?_; dsimp only)); refine box_event ?hg (N := 2) ?hd (cs := #[.int .u64 a0_0, .int .i64 a0_1, .string a0_2, .slice A0_3 l0_3.length c0_3]) (t := 46) ?hr ?_; (case hd => rfl); (case hg => rfl); (case hr => first | (go_simp; done) | (go_simp; rfl)); intro gb401 hg w4 hbox hb; have n0_ := Aside0.mk (below_step pB hb); have n1_ := Aside0.mk (hbox); have n2_ := Aside0.mk ((by rw [hg]; exact (below_size pB) : w.heap.size ≤ gb401)); have n3_ := Aside0.mk ((by rw [hg]; exact (below_size pB) : w.heap.size ≤ gb401)); clear HB; have HB := n0_; have BK401 := n1_; have GW401 := n2_; have GE401 := n3_; clear n0_ n1_ n2_ n3_; clear hb hbox hg) | ((with_reducible refine gate_dst (N := 3) rfl ?_); (try (refine gate_guard (by rfl) ?_; dsimp only)); refine box_event ?hg (N := 3) ?hd (cs := #[.int .u64 a1_0, .int .i64 a1_1, .string a1_2, .slice A1_3 l1_3.length c1_3]) (t := 46) ?hr ?_; (case hd => rfl); (case hg => rfl); (case hr => first | (go_simp; done) | (go_simp; rfl)); intro gb402 hg w5 hbox hb; have n0_ := Aside0.mk (pkb BK401.out hb); have n1_ := Aside0.mk (below_step pB hb); have n2_ := Aside0.mk (hbox); have n3_ := Aside0.mk ((by rw [hg]; exact (below_size pB) : w.heap.size ≤ gb402)); have n4_ := Aside0.mk ((by rw [hg]; exact (below_size pB) : w.heap.size ≤ gb402)); have n5_ := Aside0.mk ((by rw [hg]; exact Nat.ne_of_lt (pkl BK401.out) : gb401 ≠ gb402)); have n6_ := Aside0.mk ((by rw [hg]; exact Nat.ne_of_gt (pkl BK401.out) : gb402 ≠ gb401)); clear BK401; clear HB; have BK401 := n0_; have HB := n1_; have BK402 := n2_; have GW402 := n3_; have GE402 := n4_; have NB401_402 := n5_; have NB402_401 := n6_; clear n0_ n1_ n2_ n3_ n4_ n5_ n6_; clear hb hbox hg)); go_upto_region 1 with (first | ((with_reducible refine gate_dst (N := 2) rfl ?_); (try (refine gate_guard (by rfl) ?_; dsimp only)); refine box_event ?hg (N := 2) ?hd (cs := #[.int .u64 a0_0, .int .i64 a0_1, .string a0_2, .slice A0_3 l0_3.length c0_3]) (t := 46) ?hr ?_; (case hd => rfl); (case hg => rfl); (case hr => first | (go_simp; done) | (go_simp; rfl)); intro gb401 hg w4 hbox hb; have n0_ := Aside0.mk (below_step pB hb); have n1_ := Aside0.mk (hbox); have n2_ := Aside0.mk ((by rw [hg]; exact (below_size pB) : w.heap.size ≤ gb401)); have n3_ := Aside0.mk ((by rw [hg]; exact (below_size pB) : w.heap.size ≤ gb401)); clear HB; have HB := n0_; have BK401 := n1_; have GW401 := n2_; have GE401 := n3_; clear n0_ n1_ n2_ n3_; clear hb hbox hg) | ((with_reducible refine gate_dst (N := 3) rfl ?_); (try (refine gate_guard (by rfl) ?_; dsimp only)); refine box_event ?hg (N := 3) ?hd (cs := #[.int .u64 a1_0, .int .i64 a1_1, .string a1_2, .slice A1_3 l1_3.length c1_3]) (t := 46) ?hr ?_; (case hd => rfl); (case hg => rfl); (case hr => first | (go_simp; done) | (go_simp; rfl)); intro gb402 hg w5 hbox hb; have n0_ := Aside0.mk (pkb BK401.out hb); have n1_ := Aside0.mk (below_step pB hb); have n2_ := Aside0.mk (hbox); have n3_ := Aside0.mk ((by rw [hg]; exact (below_size pB) : w.heap.size ≤ gb402)); have n4_ := Aside0.mk ((by rw [hg]; exact (below_size pB) : w.heap.size ≤ gb402)); have n5_ := Aside0.mk ((by rw [hg]; exact Nat.ne_of_lt (pkl BK401.out) : gb401 ≠ gb402)); have n6_ := Aside0.mk ((by rw [hg]; exact Nat.ne_of_gt (pkl BK401.out) : gb402 ≠ gb401)); clear BK401; clear HB; have BK401 := n0_; have HB := n1_; have BK402 := n2_; have GW402 := n3_; have GE402 := n4_; have NB401_402 := n5_; have NB402_401 := n6_; clear n0_ n1_ n2_ n3_ n4_ n5_ n6_; clear hb hbox hg)))
 (try simp only [Act.put, List.setIfInBounds_toArray, List.set_cons_zero, List.set_cons_succ])
 go_cut [33] (fun v33 wc => ∃ (kq : Nat) (x33_2 : Bool), v33 = .bool x33_2 ∧ Aside0 (minstrelref19_Same.j0 kq x33_2 a0_0 a0_1 a0_2 l0_3 a1_0 a1_1 a1_2 l1_3 = some r) ∧ Aside0 (kq ≤ k) ∧ Aside0 (wc.heap[gb401]? = some (.cells #[.int .u64 a0_0, .int .i64 a0_1, .string a0_2, (.slice A0_3 l0_3.length c0_3)] 46 (0, 0))) ∧ Aside0 (wc.heap[gb402]? = some (.cells #[.int .u64 a1_0, .int .i64 a1_1, .string a1_2, (.slice A1_3 l1_3.length c1_3)] 46 (0, 0))) ∧ Aside0 (Below w.heap.size w wc))
 case first =>
  have H := HC3.out
  clear HC3
  by_cases c6 : a0_0 = a1_0
  ·rw [if_pos c6] at H
   have c6b0 : (a0_0 == a1_0) = true := beq_iff_eq.mpr c6
   have c6b1 : (a0_0 != a1_0) = false := bne_eq_false_iff_eq.mpr c6
   clear c6
   (first | rw [c6b0] | (simp only [i64_w, i32_w]; rw [c6b0]) | rw [c6b1] | (simp only [i64_w, i32_w]; rw [c6b1]) | skip)
   by_cases c7 : a0_1 = a1_1
   ·rw [if_pos c7] at H
    have c7b0 : (a0_1 == a1_1) = true := beq_iff_eq.mpr c7
    have c7b1 : (a0_1 != a1_1) = false := bne_eq_false_iff_eq.mpr c7
    clear c7
    by_cases c8 : a0_2.toList = a1_2.toList
    ·rw [if_pos c8] at H
     have c8b0 : (a0_2.toList == a1_2.toList) = true := beq_iff_eq.mpr c8
     have c8b1 : (a0_2.toList != a1_2.toList) = false := bne_eq_false_iff_eq.mpr c8
     clear c8
     have H' := Aside0.mk H
     clear H
     have hnb9 := NB401_402.out
     have hnc9 := NB402_401.out
     obtain ⟨hcz10_0, hcz10_1, hcz10_2, hcz10_3, hfz10_0, hfz10_1, hfz10_2, hfz10_3⟩ := cf4 BK401.out
     obtain ⟨hcz11_0, hcz11_1, hcz11_2, hcz11_3, hfz11_0, hfz11_1, hfz11_2, hfz11_3⟩ := cf4 BK402.out
     go_wp2
     repeat (go_quiet (fail); try go_wp2)
     go_meet
     case rel => exact ⟨_, (((l0_3.length : Int) != (l1_3.length : Int))), (by first | rfl | (simp; done) | (simp [*]; done)), H', ⟨by first | omega | exact Nat.le_refl _⟩, ⟨by (with_reducible repeat (first | refine blk_drewN ?_ _ | refine blk_drew ?_ | refine blk_alloc ?_ _)); exact BK401.out⟩, ⟨by (with_reducible repeat (first | refine blk_drewN ?_ _ | refine blk_drew ?_ | refine blk_alloc ?_ _)); exact BK402.out⟩, ⟨pB⟩⟩
    ·rw [if_neg c8] at H
     have c8b0 : (a0_2.toList == a1_2.toList) = false := beq_eq_false_iff_ne.mpr c8
     have c8b1 : (a0_2.toList != a1_2.toList) = true := bne_iff_ne.mpr c8
     have H' := Aside0.mk H
     clear H
     have hnb12 := NB401_402.out
     have hnc12 := NB402_401.out
     obtain ⟨hcz13_0, hcz13_1, hcz13_2, hcz13_3, hfz13_0, hfz13_1, hfz13_2, hfz13_3⟩ := cf4 BK401.out
     obtain ⟨hcz14_0, hcz14_1, hcz14_2, hcz14_3, hfz14_0, hfz14_1, hfz14_2, hfz14_3⟩ := cf4 BK402.out
     go_wp2
     repeat (go_quiet (fail); try go_wp2)
     go_meet
     case rel => exact ⟨_, (true), (by first | rfl | (simp; done) | (simp [*]; done)), H', ⟨by first | omega | exact Nat.le_refl _⟩, ⟨by (with_reducible repeat (first | refine blk_drewN ?_ _ | refine blk_drew ?_ | refine blk_alloc ?_ _)); exact BK401.out⟩, ⟨by (with_reducible repeat (first | refine blk_drewN ?_ _ | refine blk_drew ?_ | refine blk_alloc ?_ _)); exact BK402.out⟩, ⟨pB⟩⟩
   ·rw [if_neg c7] at H
    have c7b0 : (a0_1 == a1_1) = false := beq_eq_false_iff_ne.mpr c7
    have c7b1 : (a0_1 != a1_1) = true := bne_iff_ne.mpr c7
    have H' := Aside0.mk H
    clear H
    have hnb15 := NB401_402.out
    have hnc15 := NB402_401.out
    obtain ⟨hcz16_0, hcz16_1, hcz16_2, hcz16_3, hfz16_0, hfz16_1, hfz16_2, hfz16_3⟩ := cf4 BK401.out
    obtain ⟨hcz17_0, hcz17_1, hcz17_2, hcz17_3, hfz17_0, hfz17_1, hfz17_2, hfz17_3⟩ := cf4 BK402.out
    go_wp2
    repeat (go_quiet (fail); try go_wp2)
    go_meet
    case rel => exact ⟨_, (true), (by first | rfl | (simp; done) | (simp [*]; done)), H', ⟨by first | omega | exact Nat.le_refl _⟩, ⟨by (with_reducible repeat (first | refine blk_drewN ?_ _ | refine blk_drew ?_ | refine blk_alloc ?_ _)); exact BK401.out⟩, ⟨by (with_reducible repeat (first | refine blk_drewN ?_ _ | refine blk_drew ?_ | refine blk_alloc ?_ _)); exact BK402.out⟩, ⟨pB⟩⟩
  ·rw [if_neg c6] at H
   have c6b0 : (a0_0 == a1_0) = false := beq_eq_false_iff_ne.mpr c6
   have c6b1 : (a0_0 != a1_0) = true := bne_iff_ne.mpr c6
   (first | rw [c6b0] | (simp only [i64_w, i32_w]; rw [c6b0]) | rw [c6b1] | (simp only [i64_w, i32_w]; rw [c6b1]) | skip)
   have H' := Aside0.mk H
   clear H
   have hnb18 := NB401_402.out
   have hnc18 := NB402_401.out
   obtain ⟨hcz19_0, hcz19_1, hcz19_2, hcz19_3, hfz19_0, hfz19_1, hfz19_2, hfz19_3⟩ := cf4 BK401.out
   obtain ⟨hcz20_0, hcz20_1, hcz20_2, hcz20_3, hfz20_0, hfz20_1, hfz20_2, hfz20_3⟩ := cf4 BK402.out
   go_wp2
   repeat (go_quiet (fail); try go_wp2)
   go_meet
   case rel => exact ⟨_, (true), (by first | rfl | (simp; done) | (simp [*]; done)), H', ⟨by first | omega | exact Nat.le_refl _⟩, ⟨by (with_reducible repeat (first | refine blk_drewN ?_ _ | refine blk_drew ?_ | refine blk_alloc ?_ _)); exact BK401.out⟩, ⟨by (with_reducible repeat (first | refine blk_drewN ?_ _ | refine blk_drew ?_ | refine blk_alloc ?_ _)); exact BK402.out⟩, ⟨pB⟩⟩
 case rest =>
  clear HC3
  try clear c1
  try clear c2
  try clear p2
  try clear c6
  try clear c6b0
  try clear c6b1
  try clear c7
  try clear c7b0
  try clear c7b1
  try clear c8
  try clear c8b0
  try clear c8b1
  try clear c9
  try clear c12
  try clear c15
  try clear c18
  try clear hcz10_0 hcz10_1 hcz10_2 hcz10_3 hcz11_0 hcz11_1 hcz11_2 hcz11_3 hcz13_0 hcz13_1 hcz13_2 hcz13_3 hcz14_0 hcz14_1 hcz14_2 hcz14_3 hcz16_0 hcz16_1 hcz16_2 hcz16_3 hcz17_0 hcz17_1 hcz17_2 hcz17_3 hcz19_0 hcz19_1 hcz19_2 hcz19_3 hcz20_0 hcz20_1 hcz20_2 hcz20_3 hfz10_0 hfz10_1 hfz10_2 hfz10_3 hfz11_0 hfz11_1 hfz11_2 hfz11_3 hfz13_0 hfz13_1 hfz13_2 hfz13_3 hfz14_0 hfz14_1 hfz14_2 hfz14_3 hfz16_0 hfz16_1 hfz16_2 hfz16_3 hfz17_0 hfz17_1 hfz17_2 hfz17_3 hfz19_0 hfz19_1 hfz19_2 hfz19_3 hfz20_0 hfz20_1 hfz20_2 hfz20_3
  obtain ⟨kq, x33_2, rfl, HA, HJ2, BK401, BK402, HB⟩ := hcut
  cases kq with
  | zero => exact absurd HA.out (by simp [minstrelref19_Same.j0])
  | succ kj2 =>
   have H := HA.out
   clear HA
   simp only [minstrelref19_Same.j0] at H
   by_cases c21 : x33_2 = true
   ·subst c21
    have H1 : (some false) = some r := by rw [if_pos rfl] at H; exact H
    clear H
    have H := H1
    clear H1
    obtain rfl := Option.some.inj H
    go_wp2
    repeat (go_quiet (fail); try go_wp2)
    go_ret
    exact ⟨pE, pB⟩
   ·replace c21 := Bool.eq_false_iff.mpr c21
    subst c21
    have H1 : (minstrelref19_Same.l0 kj2 0 a0_0 a0_1 a0_2 l0_3 a1_0 a1_1 a1_2 l1_3) = some r := by rw [if_neg (show ¬ (false = true) by decide)] at H; exact H
    clear H
    have H := H1
    clear H1
    have H' := Aside0.mk H
    clear H
    go_wp2
    repeat (go_quiet (fail); try go_wp2)
    go_loopg [5] kj2 (fun kq v5 w' => ∃ (x5_2 : Int), v5 = .int .i64 x5_2 ∧ Aside0 (minstrelref19_Same.l0 kq x5_2 a0_0 a0_1 a0_2 l0_3 a1_0 a1_1 a1_2 l1_3 = some r) ∧ Aside0 (kq ≤ kj2) ∧ Aside0 (w'.heap[gb401]? = some (.cells #[.int .u64 a0_0, .int .i64 a0_1, .string a0_2, (.slice A0_3 l0_3.length c0_3)] 46 (0, 0))) ∧ Aside0 (w'.heap[gb402]? = some (.cells #[.int .u64 a1_0, .int .i64 a1_1, .string a1_2, (.slice A1_3 l1_3.length c1_3)] 46 (0, 0))) ∧ Aside0 (Below w.heap.size w w'))
    case atStart => exact ⟨(0), (by first | rfl | (simp; done) | (simp [*]; done)), H', ⟨Nat.le_refl _⟩, ⟨by (with_reducible repeat (first | refine blk_drewN ?_ _ | refine blk_drew ?_ | refine blk_alloc ?_ _)); exact BK401.out⟩, ⟨by (with_reducible repeat (first | refine blk_drewN ?_ _ | refine blk_drew ?_ | refine blk_alloc ?_ _)); exact BK402.out⟩, ⟨pB⟩⟩
    case round =>
     clear H'
     try clear c1
     try clear c2
     try clear p2
     try clear c6
     try clear c6b0
     try clear c6b1
     try clear c7
     try clear c7b0
     try clear c7b1
     try clear c8
     try clear c8b0
     try clear c8b1
     try clear c9
     try clear c12
     try clear c15
     try clear c18
     try clear c21
     try clear hcz10_0 hcz10_1 hcz10_2 hcz10_3 hcz11_0 hcz11_1 hcz11_2 hcz11_3 hcz13_0 hcz13_1 hcz13_2 hcz13_3 hcz14_0 hcz14_1 hcz14_2 hcz14_3 hcz16_0 hcz16_1 hcz16_2 hcz16_3 hcz17_0 hcz17_1 hcz17_2 hcz17_3 hcz19_0 hcz19_1 hcz19_2 hcz19_3 hcz20_0 hcz20_1 hcz20_2 hcz20_3 hfz10_0 hfz10_1 hfz10_2 hfz10_3 hfz11_0 hfz11_1 hfz11_2 hfz11_3 hfz13_0 hfz13_1 hfz13_2 hfz13_3 hfz14_0 hfz14_1 hfz14_2 hfz14_3 hfz16_0 hfz16_1 hfz16_2 hfz16_3 hfz17_0 hfz17_1 hfz17_2 hfz17_3 hfz19_0 hfz19_1 hfz19_2 hfz19_3 hfz20_0 hfz20_1 hfz20_2 hfz20_3
     try clear p2
     obtain ⟨x5_2, rfl, HA, HK2, BK401, BK402, HB⟩ := hrel
     cases gk with
     | zero => exact absurd HA.out (by simp [minstrelref19_Same.l0])
     | succ k2 =>
      have H := HA.out
      clear HA
      simp only [minstrelref19_Same.l0] at H
      by_cases c22 : x5_2 < (l0_3.length : Int)
      ·rw [if_pos c22] at H
       have c22b0 : decide (x5_2 < (l0_3.length : Int)) = true := decide_eq_true c22
       clear c22
       by_cases c23 : 0 ≤ x5_2
       ·rw [if_pos c23] at H
        have c23b0 : decide (0 ≤ x5_2) = true := decide_eq_true c23
        clear c23
        by_cases c24 : x5_2 < (l1_3.length : Int)
        ·rw [if_pos c24] at H
         have c24b0 : decide (x5_2 < (l1_3.length : Int)) = true := decide_eq_true c24
         clear c24
         by_cases c25 : (rd l0_3 x5_2) = (rd l1_3 x5_2)
         ·rw [if_pos c25] at H
          have c25b0 : ((rd l0_3 x5_2) == (rd l1_3 x5_2)) = true := beq_iff_eq.mpr c25
          have c25b1 : ((rd l0_3 x5_2) != (rd l1_3 x5_2)) = false := bne_eq_false_iff_eq.mpr c25
          clear c25
          have H' := Aside0.mk H
          clear H
          have hnb26 := NB401_402.out
          have hnc26 := NB402_401.out
          obtain ⟨hcz27_0, hcz27_1, hcz27_2, hcz27_3, hfz27_0, hfz27_1, hfz27_2, hfz27_3⟩ := cf4 BK401.out
          have p403 : 0 ≤ (x5_2 : Int) := pD
          have q403 : x5_2 < (l0_3.length : Int) := pD
          obtain ⟨ad403, e403, hx403_0⟩ := Kd.at_int HR0_3.out x5_2 p403 q403
          cases e403
          replace hx403_0 := (HB.out.cell (World.block_lt_of_cell? w _ hx403_0)).trans hx403_0
          replace p403 := eq_true p403
          replace q403 := eq_true q403
          obtain ⟨hcz28_0, hcz28_1, hcz28_2, hcz28_3, hfz28_0, hfz28_1, hfz28_2, hfz28_3⟩ := cf4 BK402.out
          have p404 : 0 ≤ (x5_2 : Int) := pD
          have q404 : x5_2 < (l1_3.length : Int) := pD
          obtain ⟨ad404, e404, hx404_0⟩ := Kd.at_int HR1_3.out x5_2 p404 q404
          cases e404
          replace hx404_0 := (HB.out.cell (World.block_lt_of_cell? w _ hx404_0)).trans hx404_0
          replace p404 := eq_true p404
          replace q404 := eq_true q404
          go_wp2
          repeat (go_quiet (fail); try go_wp2)
          go_roundg k2
          case measure => have := HJ2.out; have := HK2.out; omega
          case rel => exact ⟨(wrap64 (x5_2 + 1)), (by first | rfl | (simp; done) | (simp [*]; done)), H', ⟨by have := HJ2.out; have := HK2.out; omega⟩, ⟨by (with_reducible repeat (first | refine blk_drewN ?_ _ | refine blk_drew ?_ | refine blk_alloc ?_ _)); exact BK401.out⟩, ⟨by (with_reducible repeat (first | refine blk_drewN ?_ _ | refine blk_drew ?_ | refine blk_alloc ?_ _)); exact BK402.out⟩, ⟨pB⟩⟩
         ·rw [if_neg c25] at H
          have c25b0 : ((rd l0_3 x5_2) == (rd l1_3 x5_2)) = false := beq_eq_false_iff_ne.mpr c25
          have c25b1 : ((rd l0_3 x5_2) != (rd l1_3 x5_2)) = true := bne_iff_ne.mpr c25
          obtain rfl := Option.some.inj H
          have hnb29 := NB401_402.out
          have hnc29 := NB402_401.out
          obtain ⟨hcz30_0, hcz30_1, hcz30_2, hcz30_3, hfz30_0, hfz30_1, hfz30_2, hfz30_3⟩ := cf4 BK401.out
          have p403 : 0 ≤ (x5_2 : Int) := pD
          have q403 : x5_2 < (l0_3.length : Int) := pD
          obtain ⟨ad403, e403, hx403_0⟩ := Kd.at_int HR0_3.out x5_2 p403 q403
          cases e403
          replace hx403_0 := (HB.out.cell (World.block_lt_of_cell? w _ hx403_0)).trans hx403_0
          replace p403 := eq_true p403
          replace q403 := eq_true q403
          obtain ⟨hcz31_0, hcz31_1, hcz31_2, hcz31_3, hfz31_0, hfz31_1, hfz31_2, hfz31_3⟩ := cf4 BK402.out
          have p404 : 0 ≤ (x5_2 : Int) := pD
          have q404 : x5_2 < (l1_3.length : Int) := pD
          obtain ⟨ad404, e404, hx404_0⟩ := Kd.at_int HR1_3.out x5_2 p404 q404
          cases e404
          replace hx404_0 := (HB.out.cell (World.block_lt_of_cell? w _ hx404_0)).trans hx404_0
          replace p404 := eq_true p404
          replace q404 := eq_true q404
          go_wp2
          repeat (go_quiet (fail); try go_wp2)
          go_ret
          exact ⟨pE, pB⟩
        ·rw [if_neg c24] at H
         exact absurd H (by simp)
       ·rw [if_neg c23] at H
        exact absurd H (by simp)
      ·rw [if_neg c22] at H
       have c22b0 : decide (x5_2 < (l0_3.length : Int)) = false := decide_eq_false c22
       clear c22
       obtain rfl := Option.some.inj H
       have hnb32 := NB401_402.out
       have hnc32 := NB402_401.out
       obtain ⟨hcz33_0, hcz33_1, hcz33_2, hcz33_3, hfz33_0, hfz33_1, hfz33_2, hfz33_3⟩ := cf4 BK401.out
       go_wp2
       repeat (go_quiet (fail); try go_wp2)
       go_ret
       exact ⟨pE, pB⟩
def minstrelref19_Snaps.f (k : Nat) (a0_0 : Int) (a0_1 : Int) (l0_2 : List Int) (a0_3 : Int) (a0_4 : Int) (a0_5 : ByteArray) (l0_6 : List (S26)) (a0_7 : Int) (a0_8 : Int) (a0_9 : ByteArray) (l0_10 : List (S26)) (a1_0 : Int) (a1_1 : Int) (l1_2 : List Int) (a1_3 : Int) (a1_4 : Int) (a1_5 : ByteArray) (l1_6 : List (S26)) (a1_7 : Int) (a1_8 : Int) (a1_9 : ByteArray) (l1_10 : List (S26)) : Option (Bool) := if a0_0 = a1_0 then (if a0_1 = a1_1 then ((minstrelref19_Same.f k 0 0 (⟨#[]⟩ : ByteArray) l0_2 0 0 (⟨#[]⟩ : ByteArray) l1_2).bind fun t407 => (if t407 = true then ((minstrelref07_Same.f k a0_3 a0_4 a0_5 l0_6 a1_3 a1_4 a1_5 l1_6).bind fun t408 => (if t408 = true then ((minstrelref07_Same.f k a0_7 a0_8 a0_9 l0_10 a1_7 a1_8 a1_9 l1_10).bind fun t409 => (some t409)) else (some false))) else (some false))) else (some false)) else (some false)
theorem minstrelref19_Snaps.mono : ∀ a0 a1 a2 a3 a4 a5 a6 a7 a8 a9 a10 a11 a12 a13 a14 a15 a16 a17 a18 a19 a20 a21 k, LeO (minstrelref19_Snaps.f k a0 a1 a2 a3 a4 a5 a6 a7 a8 a9 a10 a11 a12 a13 a14 a15 a16 a17 a18 a19 a20 a21) (minstrelref19_Snaps.f (k + 1) a0 a1 a2 a3 a4 a5 a6 a7 a8 a9 a10 a11 a12 a13 a14 a15 a16 a17 a18 a19 a20 a21) := by
 intro a0 a1 a2 a3 a4 a5 a6 a7 a8 a9 a10 a11 a12 a13 a14 a15 a16 a17 a18 a19 a20 a21 k
 unfold minstrelref19_Snaps.f
 repeat' first
   | (with_reducible exact minstrelref07_Same.mono _ _ _ _ _ _ _ _ _)
   | (with_reducible exact minstrelref19_Same.mono _ _ _ _ _ _ _ _ _)
   | (with_reducible exact LeO.refl _)
   | (with_reducible exact LeO.none _)
   | (with_reducible refine LeO.ite ?_ ?_)
   | (with_reducible refine LeO.bind ?_ (fun _ => ?_))
   | exact minstrelref07_Same.mono _ _ _ _ _ _ _ _ _
   | exact minstrelref19_Same.mono _ _ _ _ _ _ _ _ _
   | exact LeO.none _
   | refine LeO.ite ?_ ?_
   | refine LeO.bind ?_ (fun _ => ?_)
set_option maxHeartbeats 8000000 in
set_option maxRecDepth 100000 in
theorem minstrelref19_Snaps.calls (k : Nat) (a0_0 : Int) (a0_1 : Int) (A0_2 : Option Addr) (c0_2 : Nat) (l0_2 : List Int) (a0_3 : Int) (a0_4 : Int) (a0_5 : ByteArray) (A0_6 : Option Addr) (c0_6 : Nat) (l0_6 : List (S26)) (a0_7 : Int) (a0_8 : Int) (a0_9 : ByteArray) (A0_10 : Option Addr) (c0_10 : Nat) (l0_10 : List (S26)) (a1_0 : Int) (a1_1 : Int) (A1_2 : Option Addr) (c1_2 : Nat) (l1_2 : List Int) (a1_3 : Int) (a1_4 : Int) (a1_5 : ByteArray) (A1_6 : Option Addr) (c1_6 : Nat) (l1_6 : List (S26)) (a1_7 : Int) (a1_8 : Int) (a1_9 : ByteArray) (A1_10 : Option Addr) (c1_10 : Nat) (l1_10 : List (S26)) (r : Bool) (w : World) (hr0_2 : Kd.C (Kd.int .i64) w A0_2 l0_2.length l0_2) (hc0_2 : l0_2.length ≤ c0_2) (hr0_6 : Kd.C k26 w A0_6 l0_6.length l0_6) (hc0_6 : l0_6.length ≤ c0_6) (hr0_10 : Kd.C k26 w A0_10 l0_10.length l0_10) (hc0_10 : l0_10.length ≤ c0_10) (hr1_2 : Kd.C (Kd.int .i64) w A1_2 l1_2.length l1_2) (hc1_2 : l1_2.length ≤ c1_2) (hr1_6 : Kd.C k26 w A1_6 l1_6.length l1_6) (hc1_6 : l1_6.length ≤ c1_6) (hr1_10 : Kd.C k26 w A1_10 l1_10.length l1_10) (hc1_10 : l1_10.length ≤ c1_10) (h : minstrelref19_Snaps.f k a0_0 a0_1 l0_2 a0_3 a0_4 a0_5 l0_6 a0_7 a0_8 a0_9 l0_10 a1_0 a1_1 l1_2 a1_3 a1_4 a1_5 l1_6 a1_7 a1_8 a1_9 l1_10 = some r) :
  Calls Tryd.prog 15 #[.agg #[.int .u64 a0_0, .int .u64 a0_1, .slice A0_2 l0_2.length c0_2, .int .i64 a0_3, .int .u64 a0_4, .string a0_5, .slice A0_6 l0_6.length c0_6, .int .i64 a0_7, .int .u64 a0_8, .string a0_9, .slice A0_10 l0_10.length c0_10], .agg #[.int .u64 a1_0, .int .u64 a1_1, .slice A1_2 l1_2.length c1_2, .int .i64 a1_3, .int .u64 a1_4, .string a1_5, .slice A1_6 l1_6.length c1_6, .int .i64 a1_7, .int .u64 a1_8, .string a1_9, .slice A1_10 l1_10.length c1_10]] w fun e w' => e = .returned (.bool r) ∧ Below w.heap.size w w' := by
 have hu28 := Tryd.underlying28
 have hu46 := Tryd.underlying46
 have hu26 := Tryd.underlying26
 have HR0_2 := Aside0.mk hr0_2
 have HC0_2 := Aside0.mk hc0_2
 clear hr0_2 hc0_2
 have HR0_6 := Aside0.mk hr0_6
 have HC0_6 := Aside0.mk hc0_6
 clear hr0_6 hc0_6
 have HR0_10 := Aside0.mk hr0_10
 have HC0_10 := Aside0.mk hc0_10
 clear hr0_10 hc0_10
 have HR1_2 := Aside0.mk hr1_2
 have HC1_2 := Aside0.mk hc1_2
 clear hr1_2 hc1_2
 have HR1_6 := Aside0.mk hr1_6
 have HC1_6 := Aside0.mk hc1_6
 clear hr1_6 hc1_6
 have HR1_10 := Aside0.mk hr1_10
 have HC1_10 := Aside0.mk hc1_10
 clear hr1_10 hc1_10
 have HB := Aside0.mk (Below.refl w.heap.size w)
 have H : (if a0_0 = a1_0 then (if a0_1 = a1_1 then ((minstrelref19_Same.f k 0 0 (⟨#[]⟩ : ByteArray) l0_2 0 0 (⟨#[]⟩ : ByteArray) l1_2).bind fun t407 => (if t407 = true then ((minstrelref07_Same.f k a0_3 a0_4 a0_5 l0_6 a1_3 a1_4 a1_5 l1_6).bind fun t408 => (if t408 = true then ((minstrelref07_Same.f k a0_7 a0_8 a0_9 l0_10 a1_7 a1_8 a1_9 l1_10).bind fun t409 => (some t409)) else (some false))) else (some false))) else (some false)) else (some false)) = some r := h
 clear h
 by_cases c3 : a0_0 = a1_0
 ·rw [if_pos c3] at H
  have c3b0 : (a0_0 == a1_0) = true := beq_iff_eq.mpr c3
  have c3b1 : (a0_0 != a1_0) = false := bne_eq_false_iff_eq.mpr c3
  clear c3
  by_cases c4 : a0_1 = a1_1
  ·rw [if_pos c4] at H
   have c4b0 : (a0_1 == a1_1) = true := beq_iff_eq.mpr c4
   have c4b1 : (a0_1 != a1_1) = false := bne_eq_false_iff_eq.mpr c4
   clear c4
   replace H := Option.bind_eq_some_iff.mp H
   obtain ⟨t407, A50, H⟩ := H
   replace H : (if t407 = true then ((minstrelref07_Same.f k a0_3 a0_4 a0_5 l0_6 a1_3 a1_4 a1_5 l1_6).bind fun t408 => (if t408 = true then ((minstrelref07_Same.f k a0_7 a0_8 a0_9 l0_10 a1_7 a1_8 a1_9 l1_10).bind fun t409 => (some t409)) else (some false))) else (some false)) = some r := H
   have A5 := Aside0.mk A50
   clear A50
   by_cases c6 : t407 = true
   ·subst c6
    have H1 : ((minstrelref07_Same.f k a0_3 a0_4 a0_5 l0_6 a1_3 a1_4 a1_5 l1_6).bind fun t408 => (if t408 = true then ((minstrelref07_Same.f k a0_7 a0_8 a0_9 l0_10 a1_7 a1_8 a1_9 l1_10).bind fun t409 => (some t409)) else (some false))) = some r := by rw [if_pos rfl] at H; exact H
    clear H
    have H := H1
    clear H1
    replace H := Option.bind_eq_some_iff.mp H
    obtain ⟨t408, A70, H⟩ := H
    replace H : (if t408 = true then ((minstrelref07_Same.f k a0_7 a0_8 a0_9 l0_10 a1_7 a1_8 a1_9 l1_10).bind fun t409 => (some t409)) else (some false)) = some r := H
    have A7 := Aside0.mk A70
    clear A70
    by_cases c8 : t408 = true
    ·subst c8
     have H1 : ((minstrelref07_Same.f k a0_7 a0_8 a0_9 l0_10 a1_7 a1_8 a1_9 l1_10).bind fun t409 => (some t409)) = some r := by rw [if_pos rfl] at H; exact H
     clear H
     have H := H1
     clear H1
     replace H := Option.bind_eq_some_iff.mp H
     obtain ⟨t409, A90, H⟩ := H
     replace H : (some t409) = some r := H
     have A9 := Aside0.mk A90
     clear A90
     obtain rfl := Option.some.inj H
     go_enter Tryd.func15, Tryd.ntmps15
     go_wp2_with (first | ((with_reducible refine gate_dst (N := 2) rfl ?_); refine box_event ?hg (N := 2) ?hd (cs := #[.int .u64 a0_0, .int .u64 a0_1, .slice A0_2 l0_2.length c0_2, .int .i64 a0_3, .int .u64 a0_4, .string a0_5, .slice A0_6 l0_6.length c0_6, .int .i64 a0_7, .int .u64 a0_8, .string a0_9, .slice A0_10 l0_10.length c0_10]) (t := 28) ?hr ?_; (case hd => rfl); (case hg => rfl); (case hr => first | (go_simp; done) | (go_simp; rfl)); intro gb405 hg w10 hbox hb; have n0_ := Aside0.mk (below_step pB hb); have n1_ := Aside0.mk (hbox); have n2_ := Aside0.mk ((by rw [hg]; exact (below_size pB) : w.heap.size ≤ gb405)); have n3_ := Aside0.mk ((by rw [hg]; exact (below_size pB) : w.heap.size ≤ gb405)); clear HB; have HB := n0_; have BK405 := n1_; have GW405 := n2_; have GE405 := n3_; clear n0_ n1_ n2_ n3_; clear hb hbox hg) | ((with_reducible refine gate_dst (N := 3) rfl ?_); refine box_event ?hg (N := 3) ?hd (cs := #[.int .u64 a1_0, .int .u64 a1_1, .slice A1_2 l1_2.length c1_2, .int .i64 a1_3, .int .u64 a1_4, .string a1_5, .slice A1_6 l1_6.length c1_6, .int .i64 a1_7, .int .u64 a1_8, .string a1_9, .slice A1_10 l1_10.length c1_10]) (t := 28) ?hr ?_; (case hd => rfl); (case hg => rfl); (case hr => first | (go_simp; done) | (go_simp; rfl)); intro gb406 hg w11 hbox hb; have n0_ := Aside0.mk (pkb BK405.out hb); have n1_ := Aside0.mk (below_step pB hb); have n2_ := Aside0.mk (hbox); have n3_ := Aside0.mk ((by rw [hg]; exact (below_size pB) : w.heap.size ≤ gb406)); have n4_ := Aside0.mk ((by rw [hg]; exact (below_size pB) : w.heap.size ≤ gb406)); have n5_ := Aside0.mk ((by rw [hg]; exact Nat.ne_of_lt (pkl BK405.out) : gb405 ≠ gb406)); have n6_ := Aside0.mk ((by rw [hg]; exact Nat.ne_of_gt (pkl BK405.out) : gb406 ≠ gb405)); clear BK405; clear HB; have BK405 := n0_; have HB := n1_; have BK406 := n2_; have GW406 := n3_; have GE406 := n4_; have NB405_406 := n5_; have NB406_405 := n6_; clear n0_ n1_ n2_ n3_ n4_ n5_ n6_; clear hb hbox hg; have hnb12 := NB405_406.out; have hnc12 := NB406_405.out; obtain ⟨hcz13_0, hcz13_1, hcz13_2, hcz13_3, hcz13_4, hcz13_5, hcz13_6, hcz13_7, hcz13_8, hcz13_9, hcz13_10, hfz13_0, hfz13_1, hfz13_2, hfz13_3, hfz13_4, hfz13_5, hfz13_6, hfz13_7, hfz13_8, hfz13_9, hfz13_10⟩ := cf11 BK405.out; obtain ⟨hcz14_0, hcz14_1, hcz14_2, hcz14_3, hcz14_4, hcz14_5, hcz14_6, hcz14_7, hcz14_8, hcz14_9, hcz14_10, hfz14_0, hfz14_1, hfz14_2, hfz14_3, hfz14_4, hfz14_5, hfz14_6, hfz14_7, hfz14_8, hfz14_9, hfz14_10⟩ := cf11 BK406.out) | (go_at_call 23; (with_reducible refine (minstrelref19_Same.calls k 0 0 (⟨#[]⟩ : ByteArray) _ _ l0_2 0 0 (⟨#[]⟩ : ByteArray) _ _ l1_2 true _ ?side1 ?side2 ?side3 ?side4 A5.out).mono ?_); (case side1 => exact pC (Kd.C_below HR0_2.out HB.out)); (case side2 => exact HC0_2.out); (case side3 => exact pC (Kd.C_below HR1_2.out HB.out)); (case side4 => exact HC1_2.out); rintro e w15 ⟨rfl, hb⟩; have n0_ := Aside0.mk (pkb BK405.out hb); have n1_ := Aside0.mk (pkb BK406.out hb); have n2_ := Aside0.mk (below_step pB hb); clear BK405; clear BK406; clear HB; have BK405 := n0_; have BK406 := n1_; have HB := n2_; clear n0_ n1_ n2_; (try clear hb); (try clear hb2); (try clear hk); (try clear hi); obtain ⟨hcz16_0, hcz16_1, hcz16_2, hcz16_3, hcz16_4, hcz16_5, hcz16_6, hcz16_7, hcz16_8, hcz16_9, hcz16_10, hfz16_0, hfz16_1, hfz16_2, hfz16_3, hfz16_4, hfz16_5, hfz16_6, hfz16_7, hfz16_8, hfz16_9, hfz16_10⟩ := cf11 BK405.out; obtain ⟨hcz17_0, hcz17_1, hcz17_2, hcz17_3, hcz17_4, hcz17_5, hcz17_6, hcz17_7, hcz17_8, hcz17_9, hcz17_10, hfz17_0, hfz17_1, hfz17_2, hfz17_3, hfz17_4, hfz17_5, hfz17_6, hfz17_7, hfz17_8, hfz17_9, hfz17_10⟩ := cf11 BK406.out) | (go_at_call 19; (with_reducible refine (minstrelref07_Same.calls k a0_3 a0_4 a0_5 _ _ l0_6 a1_3 a1_4 a1_5 _ _ l1_6 true _ ?side1 ?side2 ?side3 ?side4 A7.out).mono ?_); (case side1 => exact pC (Kd.C_below HR0_6.out HB.out)); (case side2 => exact HC0_6.out); (case side3 => exact pC (Kd.C_below HR1_6.out HB.out)); (case side4 => exact HC1_6.out); rintro e w18 ⟨rfl, hb⟩; have n0_ := Aside0.mk (pkb BK405.out hb); have n1_ := Aside0.mk (pkb BK406.out hb); have n2_ := Aside0.mk (below_step pB hb); clear BK405; clear BK406; clear HB; have BK405 := n0_; have BK406 := n1_; have HB := n2_; clear n0_ n1_ n2_; (try clear hb); (try clear hb2); (try clear hk); (try clear hi); obtain ⟨hcz19_0, hcz19_1, hcz19_2, hcz19_3, hcz19_4, hcz19_5, hcz19_6, hcz19_7, hcz19_8, hcz19_9, hcz19_10, hfz19_0, hfz19_1, hfz19_2, hfz19_3, hfz19_4, hfz19_5, hfz19_6, hfz19_7, hfz19_8, hfz19_9, hfz19_10⟩ := cf11 BK405.out; obtain ⟨hcz20_0, hcz20_1, hcz20_2, hcz20_3, hcz20_4, hcz20_5, hcz20_6, hcz20_7, hcz20_8, hcz20_9, hcz20_10, hfz20_0, hfz20_1, hfz20_2, hfz20_3, hfz20_4, hfz20_5, hfz20_6, hfz20_7, hfz20_8, hfz20_9, hfz20_10⟩ := cf11 BK406.out) | (go_at_call 19; (with_reducible refine (minstrelref07_Same.calls k a0_7 a0_8 a0_9 _ _ l0_10 a1_7 a1_8 a1_9 _ _ l1_10 t409 _ ?side1 ?side2 ?side3 ?side4 A9.out).mono ?_); (case side1 => exact pC (Kd.C_below HR0_10.out HB.out)); (case side2 => exact HC0_10.out); (case side3 => exact pC (Kd.C_below HR1_10.out HB.out)); (case side4 => exact HC1_10.out); rintro e w21 ⟨rfl, hb⟩; have n0_ := Aside0.mk (pkb BK405.out hb); have n1_ := Aside0.mk (pkb BK406.out hb); have n2_ := Aside0.mk (below_step pB hb); clear BK405; clear BK406; clear HB; have BK405 := n0_; have BK406 := n1_; have HB := n2_; clear n0_ n1_ n2_; (try clear hb); (try clear hb2); (try clear hk); (try clear hi)))
     go_ret
     exact ⟨pE, pB⟩
    ·replace c8 := Bool.eq_false_iff.mpr c8
     subst c8
     have H1 : (some false) = some r := by rw [if_neg (show ¬ (false = true) by decide)] at H; exact H
     clear H
     have H := H1
     clear H1
     obtain rfl := Option.some.inj H
     go_enter Tryd.func15, Tryd.ntmps15
     go_wp2_with (first | ((with_reducible refine gate_dst (N := 2) rfl ?_); refine box_event ?hg (N := 2) ?hd (cs := #[.int .u64 a0_0, .int .u64 a0_1, .slice A0_2 l0_2.length c0_2, .int .i64 a0_3, .int .u64 a0_4, .string a0_5, .slice A0_6 l0_6.length c0_6, .int .i64 a0_7, .int .u64 a0_8, .string a0_9, .slice A0_10 l0_10.length c0_10]) (t := 28) ?hr ?_; (case hd => rfl); (case hg => rfl); (case hr => first | (go_simp; done) | (go_simp; rfl)); intro gb405 hg w22 hbox hb; have n0_ := Aside0.mk (below_step pB hb); have n1_ := Aside0.mk (hbox); have n2_ := Aside0.mk ((by rw [hg]; exact (below_size pB) : w.heap.size ≤ gb405)); have n3_ := Aside0.mk ((by rw [hg]; exact (below_size pB) : w.heap.size ≤ gb405)); clear HB; have HB := n0_; have BK405 := n1_; have GW405 := n2_; have GE405 := n3_; clear n0_ n1_ n2_ n3_; clear hb hbox hg) | ((with_reducible refine gate_dst (N := 3) rfl ?_); refine box_event ?hg (N := 3) ?hd (cs := #[.int .u64 a1_0, .int .u64 a1_1, .slice A1_2 l1_2.length c1_2, .int .i64 a1_3, .int .u64 a1_4, .string a1_5, .slice A1_6 l1_6.length c1_6, .int .i64 a1_7, .int .u64 a1_8, .string a1_9, .slice A1_10 l1_10.length c1_10]) (t := 28) ?hr ?_; (case hd => rfl); (case hg => rfl); (case hr => first | (go_simp; done) | (go_simp; rfl)); intro gb406 hg w23 hbox hb; have n0_ := Aside0.mk (pkb BK405.out hb); have n1_ := Aside0.mk (below_step pB hb); have n2_ := Aside0.mk (hbox); have n3_ := Aside0.mk ((by rw [hg]; exact (below_size pB) : w.heap.size ≤ gb406)); have n4_ := Aside0.mk ((by rw [hg]; exact (below_size pB) : w.heap.size ≤ gb406)); have n5_ := Aside0.mk ((by rw [hg]; exact Nat.ne_of_lt (pkl BK405.out) : gb405 ≠ gb406)); have n6_ := Aside0.mk ((by rw [hg]; exact Nat.ne_of_gt (pkl BK405.out) : gb406 ≠ gb405)); clear BK405; clear HB; have BK405 := n0_; have HB := n1_; have BK406 := n2_; have GW406 := n3_; have GE406 := n4_; have NB405_406 := n5_; have NB406_405 := n6_; clear n0_ n1_ n2_ n3_ n4_ n5_ n6_; clear hb hbox hg; have hnb24 := NB405_406.out; have hnc24 := NB406_405.out; obtain ⟨hcz25_0, hcz25_1, hcz25_2, hcz25_3, hcz25_4, hcz25_5, hcz25_6, hcz25_7, hcz25_8, hcz25_9, hcz25_10, hfz25_0, hfz25_1, hfz25_2, hfz25_3, hfz25_4, hfz25_5, hfz25_6, hfz25_7, hfz25_8, hfz25_9, hfz25_10⟩ := cf11 BK405.out; obtain ⟨hcz26_0, hcz26_1, hcz26_2, hcz26_3, hcz26_4, hcz26_5, hcz26_6, hcz26_7, hcz26_8, hcz26_9, hcz26_10, hfz26_0, hfz26_1, hfz26_2, hfz26_3, hfz26_4, hfz26_5, hfz26_6, hfz26_7, hfz26_8, hfz26_9, hfz26_10⟩ := cf11 BK406.out) | (go_at_call 23; (with_reducible refine (minstrelref19_Same.calls k 0 0 (⟨#[]⟩ : ByteArray) _ _ l0_2 0 0 (⟨#[]⟩ : ByteArray) _ _ l1_2 true _ ?side1 ?side2 ?side3 ?side4 A5.out).mono ?_); (case side1 => exact pC (Kd.C_below HR0_2.out HB.out)); (case side2 => exact HC0_2.out); (case side3 => exact pC (Kd.C_below HR1_2.out HB.out)); (case side4 => exact HC1_2.out); rintro e w27 ⟨rfl, hb⟩; have n0_ := Aside0.mk (pkb BK405.out hb); have n1_ := Aside0.mk (pkb BK406.out hb); have n2_ := Aside0.mk (below_step pB hb); clear BK405; clear BK406; clear HB; have BK405 := n0_; have BK406 := n1_; have HB := n2_; clear n0_ n1_ n2_; (try clear hb); (try clear hb2); (try clear hk); (try clear hi); obtain ⟨hcz28_0, hcz28_1, hcz28_2, hcz28_3, hcz28_4, hcz28_5, hcz28_6, hcz28_7, hcz28_8, hcz28_9, hcz28_10, hfz28_0, hfz28_1, hfz28_2, hfz28_3, hfz28_4, hfz28_5, hfz28_6, hfz28_7, hfz28_8, hfz28_9, hfz28_10⟩ := cf11 BK405.out; obtain ⟨hcz29_0, hcz29_1, hcz29_2, hcz29_3, hcz29_4, hcz29_5, hcz29_6, hcz29_7, hcz29_8, hcz29_9, hcz29_10, hfz29_0, hfz29_1, hfz29_2, hfz29_3, hfz29_4, hfz29_5, hfz29_6, hfz29_7, hfz29_8, hfz29_9, hfz29_10⟩ := cf11 BK406.out) | (go_at_call 19; (with_reducible refine (minstrelref07_Same.calls k a0_3 a0_4 a0_5 _ _ l0_6 a1_3 a1_4 a1_5 _ _ l1_6 false _ ?side1 ?side2 ?side3 ?side4 A7.out).mono ?_); (case side1 => exact pC (Kd.C_below HR0_6.out HB.out)); (case side2 => exact HC0_6.out); (case side3 => exact pC (Kd.C_below HR1_6.out HB.out)); (case side4 => exact HC1_6.out); rintro e w30 ⟨rfl, hb⟩; have n0_ := Aside0.mk (pkb BK405.out hb); have n1_ := Aside0.mk (pkb BK406.out hb); have n2_ := Aside0.mk (below_step pB hb); clear BK405; clear BK406; clear HB; have BK405 := n0_; have BK406 := n1_; have HB := n2_; clear n0_ n1_ n2_; (try clear hb); (try clear hb2); (try clear hk); (try clear hi)))
     go_ret
     exact ⟨pE, pB⟩
   ·replace c6 := Bool.eq_false_iff.mpr c6
    subst c6
    have H1 : (some false) = some r := by rw [if_neg (show ¬ (false = true) by decide)] at H; exact H
    clear H
    have H := H1
    clear H1
    obtain rfl := Option.some.inj H
    go_enter Tryd.func15, Tryd.ntmps15
    go_wp2_with (first | ((with_reducible refine gate_dst (N := 2) rfl ?_); refine box_event ?hg (N := 2) ?hd (cs := #[.int .u64 a0_0, .int .u64 a0_1, .slice A0_2 l0_2.length c0_2, .int .i64 a0_3, .int .u64 a0_4, .string a0_5, .slice A0_6 l0_6.length c0_6, .int .i64 a0_7, .int .u64 a0_8, .string a0_9, .slice A0_10 l0_10.length c0_10]) (t := 28) ?hr ?_; (case hd => rfl); (case hg => rfl); (case hr => first | (go_simp; done) | (go_simp; rfl)); intro gb405 hg w31 hbox hb; have n0_ := Aside0.mk (below_step pB hb); have n1_ := Aside0.mk (hbox); have n2_ := Aside0.mk ((by rw [hg]; exact (below_size pB) : w.heap.size ≤ gb405)); have n3_ := Aside0.mk ((by rw [hg]; exact (below_size pB) : w.heap.size ≤ gb405)); clear HB; have HB := n0_; have BK405 := n1_; have GW405 := n2_; have GE405 := n3_; clear n0_ n1_ n2_ n3_; clear hb hbox hg) | ((with_reducible refine gate_dst (N := 3) rfl ?_); refine box_event ?hg (N := 3) ?hd (cs := #[.int .u64 a1_0, .int .u64 a1_1, .slice A1_2 l1_2.length c1_2, .int .i64 a1_3, .int .u64 a1_4, .string a1_5, .slice A1_6 l1_6.length c1_6, .int .i64 a1_7, .int .u64 a1_8, .string a1_9, .slice A1_10 l1_10.length c1_10]) (t := 28) ?hr ?_; (case hd => rfl); (case hg => rfl); (case hr => first | (go_simp; done) | (go_simp; rfl)); intro gb406 hg w32 hbox hb; have n0_ := Aside0.mk (pkb BK405.out hb); have n1_ := Aside0.mk (below_step pB hb); have n2_ := Aside0.mk (hbox); have n3_ := Aside0.mk ((by rw [hg]; exact (below_size pB) : w.heap.size ≤ gb406)); have n4_ := Aside0.mk ((by rw [hg]; exact (below_size pB) : w.heap.size ≤ gb406)); have n5_ := Aside0.mk ((by rw [hg]; exact Nat.ne_of_lt (pkl BK405.out) : gb405 ≠ gb406)); have n6_ := Aside0.mk ((by rw [hg]; exact Nat.ne_of_gt (pkl BK405.out) : gb406 ≠ gb405)); clear BK405; clear HB; have BK405 := n0_; have HB := n1_; have BK406 := n2_; have GW406 := n3_; have GE406 := n4_; have NB405_406 := n5_; have NB406_405 := n6_; clear n0_ n1_ n2_ n3_ n4_ n5_ n6_; clear hb hbox hg; have hnb33 := NB405_406.out; have hnc33 := NB406_405.out; obtain ⟨hcz34_0, hcz34_1, hcz34_2, hcz34_3, hcz34_4, hcz34_5, hcz34_6, hcz34_7, hcz34_8, hcz34_9, hcz34_10, hfz34_0, hfz34_1, hfz34_2, hfz34_3, hfz34_4, hfz34_5, hfz34_6, hfz34_7, hfz34_8, hfz34_9, hfz34_10⟩ := cf11 BK405.out; obtain ⟨hcz35_0, hcz35_1, hcz35_2, hcz35_3, hcz35_4, hcz35_5, hcz35_6, hcz35_7, hcz35_8, hcz35_9, hcz35_10, hfz35_0, hfz35_1, hfz35_2, hfz35_3, hfz35_4, hfz35_5, hfz35_6, hfz35_7, hfz35_8, hfz35_9, hfz35_10⟩ := cf11 BK406.out) | (go_at_call 23; (with_reducible refine (minstrelref19_Same.calls k 0 0 (⟨#[]⟩ : ByteArray) _ _ l0_2 0 0 (⟨#[]⟩ : ByteArray) _ _ l1_2 false _ ?side1 ?side2 ?side3 ?side4 A5.out).mono ?_); (case side1 => exact pC (Kd.C_below HR0_2.out HB.out)); (case side2 => exact HC0_2.out); (case side3 => exact pC (Kd.C_below HR1_2.out HB.out)); (case side4 => exact HC1_2.out); rintro e w36 ⟨rfl, hb⟩; have n0_ := Aside0.mk (pkb BK405.out hb); have n1_ := Aside0.mk (pkb BK406.out hb); have n2_ := Aside0.mk (below_step pB hb); clear BK405; clear BK406; clear HB; have BK405 := n0_; have BK406 := n1_; have HB := n2_; clear n0_ n1_ n2_; (try clear hb); (try clear hb2); (try clear hk); (try clear hi)))
    go_ret
    exact ⟨pE, pB⟩
  ·rw [if_neg c4] at H
   have c4b0 : (a0_1 == a1_1) = false := beq_eq_false_iff_ne.mpr c4
   have c4b1 : (a0_1 != a1_1) = true := bne_iff_ne.mpr c4
   obtain rfl := Option.some.inj H
   go_enter Tryd.func15, Tryd.ntmps15
   go_wp2_with (first | ((with_reducible refine gate_dst (N := 2) rfl ?_); refine box_event ?hg (N := 2) ?hd (cs := #[.int .u64 a0_0, .int .u64 a0_1, .slice A0_2 l0_2.length c0_2, .int .i64 a0_3, .int .u64 a0_4, .string a0_5, .slice A0_6 l0_6.length c0_6, .int .i64 a0_7, .int .u64 a0_8, .string a0_9, .slice A0_10 l0_10.length c0_10]) (t := 28) ?hr ?_; (case hd => rfl); (case hg => rfl); (case hr => first | (go_simp; done) | (go_simp; rfl)); intro gb405 hg w37 hbox hb; have n0_ := Aside0.mk (below_step pB hb); have n1_ := Aside0.mk (hbox); have n2_ := Aside0.mk ((by rw [hg]; exact (below_size pB) : w.heap.size ≤ gb405)); have n3_ := Aside0.mk ((by rw [hg]; exact (below_size pB) : w.heap.size ≤ gb405)); clear HB; have HB := n0_; have BK405 := n1_; have GW405 := n2_; have GE405 := n3_; clear n0_ n1_ n2_ n3_; clear hb hbox hg) | ((with_reducible refine gate_dst (N := 3) rfl ?_); refine box_event ?hg (N := 3) ?hd (cs := #[.int .u64 a1_0, .int .u64 a1_1, .slice A1_2 l1_2.length c1_2, .int .i64 a1_3, .int .u64 a1_4, .string a1_5, .slice A1_6 l1_6.length c1_6, .int .i64 a1_7, .int .u64 a1_8, .string a1_9, .slice A1_10 l1_10.length c1_10]) (t := 28) ?hr ?_; (case hd => rfl); (case hg => rfl); (case hr => first | (go_simp; done) | (go_simp; rfl)); intro gb406 hg w38 hbox hb; have n0_ := Aside0.mk (pkb BK405.out hb); have n1_ := Aside0.mk (below_step pB hb); have n2_ := Aside0.mk (hbox); have n3_ := Aside0.mk ((by rw [hg]; exact (below_size pB) : w.heap.size ≤ gb406)); have n4_ := Aside0.mk ((by rw [hg]; exact (below_size pB) : w.heap.size ≤ gb406)); have n5_ := Aside0.mk ((by rw [hg]; exact Nat.ne_of_lt (pkl BK405.out) : gb405 ≠ gb406)); have n6_ := Aside0.mk ((by rw [hg]; exact Nat.ne_of_gt (pkl BK405.out) : gb406 ≠ gb405)); clear BK405; clear HB; have BK405 := n0_; have HB := n1_; have BK406 := n2_; have GW406 := n3_; have GE406 := n4_; have NB405_406 := n5_; have NB406_405 := n6_; clear n0_ n1_ n2_ n3_ n4_ n5_ n6_; clear hb hbox hg; have hnb39 := NB405_406.out; have hnc39 := NB406_405.out; obtain ⟨hcz40_0, hcz40_1, hcz40_2, hcz40_3, hcz40_4, hcz40_5, hcz40_6, hcz40_7, hcz40_8, hcz40_9, hcz40_10, hfz40_0, hfz40_1, hfz40_2, hfz40_3, hfz40_4, hfz40_5, hfz40_6, hfz40_7, hfz40_8, hfz40_9, hfz40_10⟩ := cf11 BK405.out; obtain ⟨hcz41_0, hcz41_1, hcz41_2, hcz41_3, hcz41_4, hcz41_5, hcz41_6, hcz41_7, hcz41_8, hcz41_9, hcz41_10, hfz41_0, hfz41_1, hfz41_2, hfz41_3, hfz41_4, hfz41_5, hfz41_6, hfz41_7, hfz41_8, hfz41_9, hfz41_10⟩ := cf11 BK406.out))
   go_ret
   exact ⟨pE, pB⟩
 ·rw [if_neg c3] at H
  have c3b0 : (a0_0 == a1_0) = false := beq_eq_false_iff_ne.mpr c3
  have c3b1 : (a0_0 != a1_0) = true := bne_iff_ne.mpr c3
  obtain rfl := Option.some.inj H
  go_enter Tryd.func15, Tryd.ntmps15
  go_wp2_with (first | ((with_reducible refine gate_dst (N := 2) rfl ?_); refine box_event ?hg (N := 2) ?hd (cs := #[.int .u64 a0_0, .int .u64 a0_1, .slice A0_2 l0_2.length c0_2, .int .i64 a0_3, .int .u64 a0_4, .string a0_5, .slice A0_6 l0_6.length c0_6, .int .i64 a0_7, .int .u64 a0_8, .string a0_9, .slice A0_10 l0_10.length c0_10]) (t := 28) ?hr ?_; (case hd => rfl); (case hg => rfl); (case hr => first | (go_simp; done) | (go_simp; rfl)); intro gb405 hg w42 hbox hb; have n0_ := Aside0.mk (below_step pB hb); have n1_ := Aside0.mk (hbox); have n2_ := Aside0.mk ((by rw [hg]; exact (below_size pB) : w.heap.size ≤ gb405)); have n3_ := Aside0.mk ((by rw [hg]; exact (below_size pB) : w.heap.size ≤ gb405)); clear HB; have HB := n0_; have BK405 := n1_; have GW405 := n2_; have GE405 := n3_; clear n0_ n1_ n2_ n3_; clear hb hbox hg) | ((with_reducible refine gate_dst (N := 3) rfl ?_); refine box_event ?hg (N := 3) ?hd (cs := #[.int .u64 a1_0, .int .u64 a1_1, .slice A1_2 l1_2.length c1_2, .int .i64 a1_3, .int .u64 a1_4, .string a1_5, .slice A1_6 l1_6.length c1_6, .int .i64 a1_7, .int .u64 a1_8, .string a1_9, .slice A1_10 l1_10.length c1_10]) (t := 28) ?hr ?_; (case hd => rfl); (case hg => rfl); (case hr => first | (go_simp; done) | (go_simp; rfl)); intro gb406 hg w43 hbox hb; have n0_ := Aside0.mk (pkb BK405.out hb); have n1_ := Aside0.mk (below_step pB hb); have n2_ := Aside0.mk (hbox); have n3_ := Aside0.mk ((by rw [hg]; exact (below_size pB) : w.heap.size ≤ gb406)); have n4_ := Aside0.mk ((by rw [hg]; exact (below_size pB) : w.heap.size ≤ gb406)); have n5_ := Aside0.mk ((by rw [hg]; exact Nat.ne_of_lt (pkl BK405.out) : gb405 ≠ gb406)); have n6_ := Aside0.mk ((by rw [hg]; exact Nat.ne_of_gt (pkl BK405.out) : gb406 ≠ gb405)); clear BK405; clear HB; have BK405 := n0_; have HB := n1_; have BK406 := n2_; have GW406 := n3_; have GE406 := n4_; have NB405_406 := n5_; have NB406_405 := n6_; clear n0_ n1_ n2_ n3_ n4_ n5_ n6_; clear hb hbox hg; have hnb44 := NB405_406.out; have hnc44 := NB406_405.out; obtain ⟨hcz45_0, hcz45_1, hcz45_2, hcz45_3, hcz45_4, hcz45_5, hcz45_6, hcz45_7, hcz45_8, hcz45_9, hcz45_10, hfz45_0, hfz45_1, hfz45_2, hfz45_3, hfz45_4, hfz45_5, hfz45_6, hfz45_7, hfz45_8, hfz45_9, hfz45_10⟩ := cf11 BK405.out; obtain ⟨hcz46_0, hcz46_1, hcz46_2, hcz46_3, hcz46_4, hcz46_5, hcz46_6, hcz46_7, hcz46_8, hcz46_9, hcz46_10, hfz46_0, hfz46_1, hfz46_2, hfz46_3, hfz46_4, hfz46_5, hfz46_6, hfz46_7, hfz46_8, hfz46_9, hfz46_10⟩ := cf11 BK406.out))
  go_ret
  exact ⟨pE, pB⟩
end Go.Proofs.YtlkaffbgekbcfaaDoor.Pr
end
section
namespace Go.Proofs.YtlkaffbgekbcfaaDoor.Pure
open Go.RowKit Go.Proofs.YtlkaffbgekbcfaaDoor.Pr Go.Proofs.YtlkaffbgekbcfaaDoorW.PrintWords Go.Proofs.YtlkaffbgekbcfaaDoorW.PrintLast Go.Proofs.YtlkaffbgekbcfaaDoorW.PrintMore
set_option linter.unusedVariables false
set_option linter.unusedSimpArgs false
variable {i t : Int} {l : List Int} {s u : S26}
theorem saveV_ok {r : List Int × Int} (h : (saveV i l r).2 = 0) : memB l = true ∧ ¬ i > 4611686018427387904 ∧ r.2 = 0 ∧ ¬ (r.1.length : Int) > 1048320 ∧ saveV i l r = (frameL r.1, 0) := by
  unfold saveV at h ⊢
  by_cases hm : memB l = true
  · rw [if_pos hm] at h ⊢
    by_cases hi : i > 4611686018427387904
    · rw [if_pos hi] at h; simp at h
    · rw [if_neg hi] at h ⊢
      by_cases h0 : r.2 = 0
      · rw [if_pos h0] at h ⊢
        by_cases hx : (r.1.length : Int) > 1048320
        · rw [if_pos hx] at h; simp at h
        · rw [if_neg hx]
          exact ⟨hm, hi, h0, hx, rfl⟩
      · rw [if_neg h0] at h
        exact absurd h h0
  · rw [if_neg hm] at h; simp at h
theorem lives_true : minstrellaw19_lives.f 80 = some true := by kernel_rfl
theorem lives_ev : Ev (fun k => minstrellaw19_lives.f k) true := Ev.of minstrellaw19_lives.mono lives_true
theorem own_snap {K J : Nat} (hl : l.length ≤ 17592186044415) (hs : dep K s = true) (hu : dep J u = true) (bs : lenB K s) (bu : lenB J u) :
    Ev (fun k => minstrellaw19_own.f k i t l s.f0 s.f1 s.f2 s.f3 u.f0 u.f1 u.f2 u.f3) (i, t, l, s.f0, s.f1, s.f2, s.f3, u.f0, u.f1, u.f2, u.f3) := by
  delta minstrellaw19_own.f
  simp only [Option.bind_some, List.length_nil, if_pos (show 0 + l.length < 17592186044416 by omega), List.nil_append]
  exact Ev.bind (own_ev K s hs bs) (Ev.bind (own_ev J u hu bu) (Ev.now _))
end Go.Proofs.YtlkaffbgekbcfaaDoor.Pure
end
section
namespace Go.Proofs.YtlkaffbgekbcfaaDoor.Crc
def top : Nat := 2147483648
theorem stepN_add (c : Nat) (a : Nat) : ∀ b, stepN c (a + b) = stepN (stepN c a) b
  | 0 => rfl
  | b + 1 => by rw [← Nat.add_assoc, stepN, stepN_add c a b, stepN]
theorem stepN_lt {c : Nat} (h : c < 4294967296) : ∀ k, stepN c k < 4294967296
  | 0 => h
  | k + 1 => step_lt (stepN_lt h k)
theorem step_ne {c : Nat} (h : c < 4294967296) (hc : c ≠ 0) : step c ≠ 0 := by
  unfold step
  have h1 : c >>> 1 = c / 2 := by rw [Nat.shiftRight_eq_div_pow]
  by_cases hb : c % 2 = 1
  · rw [if_pos hb]
    intro e
    have h2 : c >>> 1 = poly := by
      have := congrArg (· ^^^ poly) e
      simp only [Nat.xor_assoc, Nat.xor_self, Nat.xor_zero, Nat.zero_xor] at this
      exact this
    unfold poly at h2
    omega
  · rw [if_neg hb, Nat.xor_zero]
    omega
theorem stepN_ne {c : Nat} (h : c < 4294967296) (hc : c ≠ 0) : ∀ k, stepN c k ≠ 0
  | 0 => hc
  | k + 1 => step_ne (stepN_lt h k) (stepN_ne h hc k)
theorem pow_step : ∀ j, j < 32 → stepN top (31 - j) = 2 ^ j := by decide
theorem crcB_zero (d : Nat) : crcB d 0 = stepN d 8 := by
  unfold crcB
  rw [Nat.xor_zero, ← steps8]
  rfl
theorem crcL_xor (l : List Nat) : ∀ c d, crcL (c ^^^ d) l = crcL c l ^^^ stepN d (8 * l.length) := by
  induction l with
  | nil => intro c d; rfl
  | cons x l ih =>
    intro c d
    show crcL (crcB (c ^^^ d) x) l = crcL (crcB c x) l ^^^ _
    have := crcB_xor c d x 0
    rw [Nat.xor_zero] at this
    rw [this, ih, crcB_zero, ← stepN_add, List.length_cons]
    congr 2
    omega
theorem crcL_set (l : List Nat) (e : Nat) : ∀ c i, (hi : i < l.length) → crcL c (l.set i (l[i] ^^^ e)) = crcL c l ^^^ stepN e (8 * (l.length - i)) := by
  induction l with
  | nil => intro c i hi; exact absurd hi (by simp)
  | cons x l ih =>
    intro c i hi
    cases i with
    | zero =>
      show crcL (crcB c (x ^^^ e)) l = crcL (crcB c x) l ^^^ _
      have := crcB_xor c 0 x e
      rw [Nat.xor_zero] at this
      have h0 : crcB 0 e = stepN e 8 := by
        rw [← crcB_zero]
        unfold crcB
        rw [Nat.zero_xor, Nat.xor_zero]
      rw [this, crcL_xor, h0, ← stepN_add, List.length_cons]
      congr 2
      omega
    | succ i =>
      have hi' : i < l.length := by simpa using hi
      show crcL (crcB c x) (l.set i (l[i] ^^^ e)) = crcL (crcB c x) l ^^^ _
      rw [ih _ i hi', List.length_cons]
      congr 3
      omega
end Go.Proofs.YtlkaffbgekbcfaaDoor.Crc
end
section
namespace Go.Proofs.YtlkaffbgekbcfaaDoor.Pure
open Go.RowKit Go.Proofs.YtlkaffbgekbcfaaDoor.Pr Go.Proofs.YtlkaffbgekbcfaaDoorW.PrintWords Go.Proofs.YtlkaffbgekbcfaaDoorW.PrintLast Go.Proofs.YtlkaffbgekbcfaaDoorW.PrintMore Go.Proofs.YtlkaffbgekbcfaaDoor.Crc
set_option linter.unusedVariables false
set_option linter.unusedSimpArgs false
theorem join_xor (i a a' b b' : Nat) (hb : b < 2 ^ i) (hb' : b' < 2 ^ i) : (2 ^ i * a + b) ^^^ (2 ^ i * a' + b') = 2 ^ i * (a ^^^ a') + (b ^^^ b') := by
  apply Nat.eq_of_testBit_eq
  intro j
  rw [Nat.testBit_xor, Nat.testBit_two_pow_mul_add _ hb, Nat.testBit_two_pow_mul_add _ hb', Nat.testBit_two_pow_mul_add _ (Nat.xor_lt_two_pow hb hb')]
  by_cases h : j < i
  · rw [if_pos h, if_pos h, if_pos h, Nat.testBit_xor]
  · rw [if_neg h, if_neg h, if_neg h, Nat.testBit_xor]
def flipB (x p : Nat) : Nat := x ^^^ 2 ^ (p % 8)
def flipL (x : List Int) (p : Nat) : List Int := x.set (4 + p / 8) ((flipB (x.getD (4 + p / 8) 0).toNat p : Nat) : Int)
def place (n p : Nat) : Nat := if p < 32 then 31 - ((3 - p / 8) * 8 + p % 8) else 31 + 8 * n - (p - 32)
def numN (e f g h : Nat) : Nat := 2 ^ 24 * e + (2 ^ 16 * f + (2 ^ 8 * g + h))
def syn : List Int → Nat
  | a :: b :: c :: d :: e :: f :: g :: h :: m => sumN (nat (a :: b :: c :: d :: m)) ^^^ numN e.toNat f.toNat g.toNat h.toNat
  | _ => 0
theorem eight {x : List Int} {n : Nat} (h : x.length = 8 + n) : ∃ a b c d e f g i m, x = a :: b :: c :: d :: e :: f :: g :: i :: m ∧ m.length = n := by
  rcases x with _ | ⟨a, _ | ⟨b, _ | ⟨c, _ | ⟨d, _ | ⟨e, _ | ⟨f, _ | ⟨g, _ | ⟨i, m⟩⟩⟩⟩⟩⟩⟩⟩ <;> simp only [List.length_cons, List.length_nil] at h <;> first | (exfalso; omega) | exact ⟨a, b, c, d, e, f, g, i, m, rfl, by omega⟩
theorem num_e (e f g h j : Nat) (he : e < 256) (hf : f < 256) (hg : g < 256) (hh : h < 256) : numN (e ^^^ 2 ^ j) f g h = numN e f g h ^^^ 2 ^ (24 + j) := by
  have := join_xor 24 e (2 ^ j) (2 ^ 16 * f + (2 ^ 8 * g + h)) 0 (by omega) (by omega)
  unfold numN
  rw [Nat.pow_add, show 2 ^ 24 * 2 ^ j = 2 ^ 24 * 2 ^ j + 0 from rfl, this, Nat.xor_zero]
theorem num_f (e f g h j : Nat) (he : e < 256) (hf : f < 256) (hg : g < 256) (hh : h < 256) (hj : j < 8) : numN e (f ^^^ 2 ^ j) g h = numN e f g h ^^^ 2 ^ (16 + j) := by
  have hp : 2 ^ j < 256 := Nat.pow_lt_pow_of_lt (a := 2) (by decide) hj
  have h1 := join_xor 16 f (2 ^ j) (2 ^ 8 * g + h) 0 (by omega) (by omega)
  have h2 := join_xor 24 e 0 (2 ^ 16 * f + (2 ^ 8 * g + h)) (2 ^ 16 * 2 ^ j + 0) (by omega) (by omega)
  rw [h1, Nat.xor_zero, Nat.xor_zero, Nat.mul_zero, Nat.zero_add, Nat.add_zero] at h2
  unfold numN
  rw [Nat.pow_add, h2]
theorem num_g (e f g h j : Nat) (he : e < 256) (hf : f < 256) (hg : g < 256) (hh : h < 256) (hj : j < 8) : numN e f (g ^^^ 2 ^ j) h = numN e f g h ^^^ 2 ^ (8 + j) := by
  have hp : 2 ^ j < 256 := Nat.pow_lt_pow_of_lt (a := 2) (by decide) hj
  have h0 := join_xor 8 g (2 ^ j) h 0 (by omega) (by omega)
  have h1 := join_xor 16 f 0 (2 ^ 8 * g + h) (2 ^ 8 * 2 ^ j + 0) (by omega) (by omega)
  rw [h0, Nat.xor_zero, Nat.xor_zero, Nat.mul_zero, Nat.zero_add, Nat.add_zero] at h1
  have h2 := join_xor 24 e 0 (2 ^ 16 * f + (2 ^ 8 * g + h)) (2 ^ 8 * 2 ^ j) (by omega) (by omega)
  rw [h1, Nat.xor_zero, Nat.mul_zero, Nat.zero_add] at h2
  unfold numN
  rw [Nat.pow_add, h2]
theorem num_h (e f g h j : Nat) (he : e < 256) (hf : f < 256) (hg : g < 256) (hh : h < 256) (hj : j < 8) : numN e f g (h ^^^ 2 ^ j) = numN e f g h ^^^ 2 ^ j := by
  have hp : 2 ^ j < 256 := Nat.pow_lt_pow_of_lt (a := 2) (by decide) hj
  have h0 := join_xor 8 g 0 h (2 ^ j) (by omega) (by omega)
  rw [Nat.xor_zero, Nat.mul_zero, Nat.zero_add] at h0
  have h1 := join_xor 16 f 0 (2 ^ 8 * g + h) (2 ^ j) (by omega) (by omega)
  rw [h0, Nat.xor_zero, Nat.mul_zero, Nat.zero_add] at h1
  have h2 := join_xor 24 e 0 (2 ^ 16 * f + (2 ^ 8 * g + h)) (2 ^ j) (by omega) (by omega)
  rw [h1, Nat.xor_zero, Nat.mul_zero, Nat.zero_add] at h2
  unfold numN
  rw [h2]
theorem flipB_lt {x : Nat} (p : Nat) (h : x < 256) : flipB x p < 256 := by
  unfold flipB
  have hp : 2 ^ (p % 8) < 256 := Nat.pow_lt_pow_of_lt (a := 2) (by decide) (show p % 8 < 8 by omega)
  exact Nat.xor_lt_two_pow (n := 8) h hp
theorem flipL_length (x : List Int) (p : Nat) : (flipL x p).length = x.length := by simp [flipL]
theorem flipL_bytes {x : List Int} {n : Nat} (h : Bytes x) (hl : x.length = 8 + n) (p : Nat) (hp : p < 8 * n + 32) : Bytes (flipL x p) := by
  intro y hy
  rcases List.mem_or_eq_of_mem_set hy with hy | rfl
  · exact h y hy
  · have hb := getD_byte h (show 4 + p / 8 < x.length by omega)
    have := flipB_lt p (show (x.getD (4 + p / 8) 0).toNat < 256 by omega)
    omega
theorem flipL_num4 {x : List Int} {n : Nat} (hl : x.length = 8 + n) (p : Nat) : num4 (flipL x p) = num4 x := by
  obtain ⟨a, b, c, d, e, f, g, i, m, rfl, hm⟩ := eight hl
  unfold flipL num4
  rw [show 4 + p / 8 = (p / 8) + 1 + 1 + 1 + 1 by omega]
  rfl
theorem xor_zero_iff (a b : Nat) : a ^^^ b = 0 ↔ a = b := by
  constructor
  · intro e
    have := congrArg (· ^^^ b) e
    simp only [Nat.xor_assoc, Nat.xor_self, Nat.xor_zero, Nat.zero_xor] at this
    exact this
  · rintro rfl
    exact Nat.xor_self _
theorem xor_swap (a b c : Nat) : a ^^^ (b ^^^ c) = a ^^^ b ^^^ c := (Nat.xor_assoc _ _ _).symm
theorem syn_flip {x : List Int} {n : Nat} (h : Bytes x) (hl : x.length = 8 + n) (p : Nat) (hp : p < 8 * n + 32) : syn (flipL x p) = syn x ^^^ stepN top (place n p) := by
  obtain ⟨a, b, c, d, e, f, g, i, m, rfl, hm⟩ := eight hl
  have he := h e (by simp)
  have hf := h f (by simp)
  have hg := h g (by simp)
  have hi := h i (by simp)
  by_cases c1 : p < 32
  · unfold place
    rw [if_pos c1]
    have hj : p % 8 < 8 := by omega
    have h8 : p / 8 = 0 ∨ p / 8 = 1 ∨ p / 8 = 2 ∨ p / 8 = 3 := by omega
    rw [pow_step _ (by omega)]
    unfold flipL
    rcases h8 with h8 | h8 | h8 | h8 <;> rw [h8]
    · show sumN _ ^^^ numN (((flipB e.toNat p : Nat) : Int)).toNat _ _ _ = _
      rw [Int.toNat_natCast]
      unfold flipB
      rw [num_e _ _ _ _ _ (by omega) (by omega) (by omega) (by omega), xor_swap]
      rfl
    · show sumN _ ^^^ numN _ (((flipB f.toNat p : Nat) : Int)).toNat _ _ = _
      rw [Int.toNat_natCast]
      unfold flipB
      rw [num_f _ _ _ _ _ (by omega) (by omega) (by omega) (by omega) hj, xor_swap]
      rfl
    · show sumN _ ^^^ numN _ _ (((flipB g.toNat p : Nat) : Int)).toNat _ = _
      rw [Int.toNat_natCast]
      unfold flipB
      rw [num_g _ _ _ _ _ (by omega) (by omega) (by omega) (by omega) hj, xor_swap]
      rfl
    · show sumN _ ^^^ numN _ _ _ (((flipB i.toNat p : Nat) : Int)).toNat = _
      rw [Int.toNat_natCast]
      unfold flipB
      rw [num_h _ _ _ _ _ (by omega) (by omega) (by omega) (by omega) hj, xor_swap, show (3 - 3) * 8 + p % 8 = p % 8 by omega]
      rfl
  · unfold place
    rw [if_neg c1]
    obtain ⟨q, rfl⟩ : ∃ q, p = q + 32 := ⟨p - 32, by omega⟩
    have hq : q / 8 < m.length := by omega
    have e1 : flipL (a :: b :: c :: d :: e :: f :: g :: i :: m) (q + 32) = a :: b :: c :: d :: e :: f :: g :: i :: m.set (q / 8) ((flipB (m.getD (q / 8) 0).toNat q : Nat) : Int) := by
      unfold flipL flipB
      rw [show 4 + (q + 32) / 8 = (q / 8) + 1 + 1 + 1 + 1 + 1 + 1 + 1 + 1 by omega, show (q + 32) % 8 = q % 8 by omega]
      rfl
    have hx : m.getD (q / 8) 0 = m[q / 8] := by rw [List.getD_eq_getElem?_getD, List.getElem?_eq_getElem hq]; rfl
    have e2 : nat (a :: b :: c :: d :: m.set (q / 8) ((flipB (m.getD (q / 8) 0).toNat q : Nat) : Int)) = (nat (a :: b :: c :: d :: m)).set (4 + q / 8) ((nat (a :: b :: c :: d :: m))[4 + q / 8]'(by simp [nat]; omega) ^^^ 2 ^ (q % 8)) := by
      have e3 : (nat (a :: b :: c :: d :: m))[4 + q / 8]'(by simp [nat]; omega) = (m[q / 8]).toNat := by
        simp only [nat, List.getElem_map]
        congr 1
        rw [List.getElem_cons, dif_neg (by omega), List.getElem_cons, dif_neg (by omega), List.getElem_cons, dif_neg (by omega), List.getElem_cons, dif_neg (by omega)]
        congr 1
        omega
      rw [e3, hx, show 4 + q / 8 = (q / 8) + 1 + 1 + 1 + 1 by omega]
      unfold nat flipB
      simp only [List.map_cons, List.set_cons_succ, List.map_set, Int.toNat_natCast]
    rw [e1]
    show sumN (nat (a :: b :: c :: d :: m.set (q / 8) _)) ^^^ numN _ _ _ _ = (sumN (nat (a :: b :: c :: d :: m)) ^^^ numN _ _ _ _) ^^^ _
    unfold sumN
    rw [e2, crcL_set]
    have e4 : (nat (a :: b :: c :: d :: m)).length - (4 + q / 8) = n - q / 8 := by simp [nat]; omega
    have e5 : stepN (2 ^ (q % 8)) (8 * (n - q / 8)) = stepN top (31 + 8 * n - (q + 32 - 32)) := by
      rw [← pow_step (q % 8) (by omega), ← stepN_add]
      congr 1
      omega
    rw [e4, e5]
    generalize crcL 4294967295 (nat (a :: b :: c :: d :: m)) = X
    generalize numN e.toNat f.toNat g.toNat i.toNat = Y
    generalize stepN top _ = Z
    apply Nat.eq_of_testBit_eq
    intro j
    simp only [Nat.testBit_xor]
    cases Nat.testBit 4294967295 j <;> cases X.testBit j <;> cases Y.testBit j <;> cases Z.testBit j <;> rfl
theorem syn_frame (l : List Int) (h : Bytes l) : syn (frameL l) = 0 := by
  have hs := sumL_range (fourL (l.length : Int) ++ l) (bytes_app (bytes_four _) h)
  have e : syn (frameL l) = sumN (nat (fourL (l.length : Int) ++ l)) ^^^ numN ((sumL (fourL (l.length : Int) ++ l) / 16777216) % 256).toNat ((sumL (fourL (l.length : Int) ++ l) / 65536) % 256).toNat ((sumL (fourL (l.length : Int) ++ l) / 256) % 256).toNat (sumL (fourL (l.length : Int) ++ l) % 256).toNat := rfl
  rw [e]
  have e2 : ((sumN (nat (fourL (l.length : Int) ++ l)) : Nat) : Int) = sumL (fourL (l.length : Int) ++ l) := rfl
  generalize sumL (fourL (l.length : Int) ++ l) = s at *
  have : numN ((s / 16777216) % 256).toNat ((s / 65536) % 256).toNat ((s / 256) % 256).toNat (s % 256).toNat = sumN (nat (fourL (l.length : Int) ++ l)) := by
    unfold numN
    omega
  rw [this, Nat.xor_self]
theorem First_told (x : List Int) (n : Nat) (h : Bytes x) (hl : x.length = 8 + n) (hn : num4 x = (n : Int)) (hn64 : n ≤ 1048576) : ∃ r m, frame_First.f x = some (r, m, if syn x = 0 then 0 else 4) := by
  obtain ⟨a, b, c, d, e, f, g, i, m, rfl, hm⟩ := eight hl
  have he := h e (by simp)
  have hf := h f (by simp)
  have hg := h g (by simp)
  have hi := h i (by simp)
  have e8 : (8 + (n : Int)).toNat = (a :: b :: c :: d :: e :: f :: g :: i :: m).length := by omega
  have e4 : num4 ((a :: b :: c :: d :: e :: f :: g :: i :: m).drop 4) = ((numN e.toNat f.toNat g.toNat i.toNat : Nat) : Int) := by
    show ((e * 256 + f) * 256 + g) * 256 + i = _
    unfold numN
    omega
  have ex : (a :: b :: c :: d :: e :: f :: g :: i :: m).take 4 ++ ((a :: b :: c :: d :: e :: f :: g :: i :: m).drop 8) = a :: b :: c :: d :: m := rfl
  have hb : Bytes (a :: b :: c :: d :: m) := by rw [← ex]; exact bytes_app (bytes_take h 4) (bytes_drop h 8)
  have hs : frame_sum.f [(a :: b :: c :: d :: e :: f :: g :: i :: m).take 4, (a :: b :: c :: d :: e :: f :: g :: i :: m).drop 8] = some ((sumN (nat (a :: b :: c :: d :: m)) : Nat) : Int) := by
    have := sum_eq [(a :: b :: c :: d :: e :: f :: g :: i :: m).take 4, (a :: b :: c :: d :: e :: f :: g :: i :: m).drop 8] (by simpa using hb)
    rw [this]
    simp
  have key : (((sumN (nat (a :: b :: c :: d :: m)) : Nat) : Int) = ((numN e.toNat f.toNat g.toNat i.toNat : Nat) : Int)) ↔ syn (a :: b :: c :: d :: e :: f :: g :: i :: m) = 0 := by
    show _ ↔ sumN (nat (a :: b :: c :: d :: m)) ^^^ numN e.toNat f.toNat g.toNat i.toNat = 0
    rw [xor_zero_iff]
    omega
  unfold frame_First.f frame_first.f
  rw [if_neg (by omega), number_eq _ h (by omega), hn]
  simp only [Option.bind_some]
  rw [if_neg (by omega), if_neg (by omega), e8, List.take_length, hs, number_eq _ (bytes_drop h 4) (by simp), e4]
  simp only [Option.bind_some]
  by_cases hq : syn (a :: b :: c :: d :: e :: f :: g :: i :: m) = 0
  · rw [if_pos (key.2 hq), if_pos hq]
    exact ⟨_, _, rfl⟩
  · rw [if_neg (fun e => hq (key.1 e)), if_neg hq]
    exact ⟨_, _, rfl⟩
theorem tmod_nat (a b : Nat) : Int.tmod (a : Int) (b : Int) = ((a % b : Nat) : Int) := rfl
structure Like (n : Nat) (x : List Int) : Prop where
  bytes : Bytes x
  len : x.length = 8 + n
  num : num4 x = (n : Int)
theorem Like.flip {n : Nat} {x : List Int} (h : Like n x) (p : Nat) (hp : p < 8 * n + 32) : Like n (flipL x p) :=
  ⟨flipL_bytes h.bytes h.len p hp, by rw [flipL_length]; exact h.len, by rw [flipL_num4 h.len]; exact h.num⟩
theorem like_frame (l : List Int) (h : Bytes l) (hl : l.length ≤ 1048576) : Like l.length (frameL l) := by
  refine ⟨bytes_frame h, frameL_length l, ?_⟩
  have : num4 (frameL l) = num4 (fourL (l.length : Int)) := rfl
  rw [this]
  exact num_four _ (by omega) (by omega)
end Go.Proofs.YtlkaffbgekbcfaaDoor.Pure
end
section
namespace Go.Proofs.YtlkaffbgekbcfaaDoor.Pure
open Go.RowKit Go.Proofs.YtlkaffbgekbcfaaDoor.Pr Go.Proofs.YtlkaffbgekbcfaaDoorW.PrintWords Go.Proofs.YtlkaffbgekbcfaaDoorW.PrintLast Go.Proofs.YtlkaffbgekbcfaaDoorW.PrintMore Go.Proofs.YtlkaffbgekbcfaaDoor.Crc
set_option linter.unusedVariables false
set_option linter.unusedSimpArgs false
theorem load_bad {x r : List Int} {m c : Int} (h : frame_First.f x = some (r, m, c)) (hc : ¬ c = 0) : Ev (fun k => snap_Load.f k x) (0, 0, [], 0, 0, ⟨#[]⟩, [], 0, 0, ⟨#[]⟩, [], 4) := by
  delta snap_Load.f
  simp only [h, Option.bind_some]
  by_cases hr : (r.length : Int) > 1048320
  · simp only [if_pos hr]
    exact Ev.now _
  · simp only [if_neg hr, if_neg hc]
    apply Ev.step
    · intro k
      rw [snap_Load.j0]
    simp only [if_true]
    exact Ev.now _
theorem getD_take {l : List Int} {n j : Nat} (h : j < n) : (l.take n).getD j 0 = l.getD j 0 := by
  simp [List.getD_eq_getElem?_getD, List.getElem?_take, h]
theorem First_cut {xs : List Int} (hb : Bytes xs) (hl : xs.length ≤ 1048576) {n : Nat} (hn : n < 8 + xs.length) : ∃ r m c, frame_First.f ((frameL xs).take n) = some (r, m, c) ∧ ¬ c = 0 := by
  have hlen : ((frameL xs).take n).length = n := by rw [List.length_take, frameL_length]; omega
  have hB := bytes_take (bytes_frame hb) n
  unfold frame_First.f frame_first.f
  by_cases h8 : n < 8
  · rw [if_pos (by rw [hlen]; omega)]
    exact ⟨_, _, _, rfl, by decide⟩
  · rw [if_neg (by rw [hlen]; omega), number_eq _ hB (by rw [hlen]; omega)]
    have hnum : num4 ((frameL xs).take n) = (xs.length : Int) := by
      have e : num4 ((frameL xs).take n) = num4 (frameL xs) := by
        unfold num4
        rw [getD_take (by omega), getD_take (by omega), getD_take (by omega), getD_take (by omega)]
      rw [e]
      have : num4 (frameL xs) = num4 (fourL (xs.length : Int)) := rfl
      rw [this]
      exact num_four _ (by omega) (by omega)
    simp only [Option.bind_some, hnum]
    rw [if_neg (by omega), if_pos (by rw [hlen]; omega)]
    exact ⟨_, _, _, rfl, by decide⟩
theorem First_flip {xs : List Int} (hb : Bytes xs) (hl : xs.length ≤ 1048576) {p : Nat} (hp : p < 8 * xs.length + 32) : ∃ r m, frame_First.f (flipL (frameL xs) p) = some (r, m, 4) := by
  have hL := (like_frame xs hb hl).flip p hp
  obtain ⟨r, m, h⟩ := First_told (flipL (frameL xs) p) xs.length hL.bytes hL.len hL.num hl
  have hs : syn (flipL (frameL xs) p) ≠ 0 := by
    rw [syn_flip (bytes_frame hb) (frameL_length xs) p hp, syn_frame xs hb, Nat.zero_xor]
    exact stepN_ne (by decide) (by decide) _
  rw [if_neg hs] at h
  exact ⟨r, m, h⟩
theorem shl_bit (j : Nat) (h : j < 8) : shl .u8 1 (j : Int) = ((2 ^ j : Nat) : Int) := by
  have : ∀ j, j < 8 → shl .u8 1 ((j : Nat) : Int) = ((2 ^ j : Nat) : Int) := by decide
  exact this j h
theorem flip_eq {x : List Int} (h : Bytes x) {q j : Nat} (hq : 4 + q < x.length) (hj : j < 8) : x.set (4 + q) (Go.bits .xor .u8 (rd x ((4 + q : Nat) : Int)) (((2 ^ j : Nat)) : Int)) = flipL x (8 * q + j) := by
  have hb := getD_byte h hq
  have hpow : 2 ^ j < 256 := Nat.pow_lt_pow_of_lt (a := 2) (by decide) (show j < 8 by omega)
  unfold flipL flipB rd
  rw [Int.toNat_natCast, show (8 * q + j) / 8 = q by omega, show (8 * q + j) % 8 = j by omega]
  obtain ⟨y, hy⟩ := Int.eq_ofNat_of_zero_le hb.1
  rw [hy, Int.toNat_natCast, u8_xor_nat y _ (by omega) hpow]
theorem SnapWhole (i t : Int) (l : List Int) (s u : S26) (at_ : Int) (h : SnapOk i t s u) (hl : l.length ≤ maxLen) (h8 : l.length * 8 ≤ 140737488351232) (hwl : ∀ n ∈ l, (Lit.int .i64 n).wf = true) (ha : (Lit.int .u16 at_).wf = true) : ∃ k, minstrellaw19_SnapWhole.f k i t l s.f0 s.f1 s.f2 s.f3 u.f0 u.f1 u.f2 u.f3 at_ = some true := by
  apply Ev.rounds
  obtain ⟨a, rfl, ha2⟩ : ∃ a : Nat, at_ = (a : Int) ∧ a ≤ 65535 := by
    have : 0 ≤ at_ ∧ at_ ≤ 65535 := by simpa [Lit.wf, IntKind.min, IntKind.max, IntKind.signed, IntKind.bits] using ha
    exact ⟨at_.toNat, by omega, by omega⟩
  obtain ⟨ok, hs, hok⟩ := small_top s h.ws
  obtain ⟨ok2, hs2, hok2⟩ := small_top u h.wu
  have hll := lives_ev
  have j0true : Ev (fun k => minstrellaw19_SnapWhole.j0 k (a : Int) true i t l s.f0 s.f1 s.f2 s.f3 u.f0 u.f1 u.f2 u.f3) true := by
    apply Ev.step
    · intro k
      rw [minstrellaw19_SnapWhole.j0]
    simp only [if_true]
    exact Ev.bind hll (Ev.now _)
  delta minstrellaw19_SnapWhole.f
  refine Ev.bind hs ?_
  cases ok with
  | false => simpa only [Bool.false_eq_true, if_false] using j0true
  | true =>
    simp only [if_true]
    refine Ev.bind hs2 ?_
    cases ok2 with
    | false => simpa only [Bool.not_false] using j0true
    | true =>
      simp only [Bool.not_true]
      obtain ⟨K1, hd1, hB1⟩ := hok rfl
      obtain ⟨K2, hd2, hB2⟩ := hok2 rfl
      have hD1 := dep_le hd1 (Nat.le_max_left K1 K2)
      have hD2 := dep_le hd2 (Nat.le_max_right K1 K2)
      have ho := own_snap (i := i) (t := t) (l := l) (by omega) hd1 hd2 hB1 hB2
      generalize max K1 K2 = K at hD1 hD2
      have hl2 : l.length ≤ 9223372036854775807 := by omega
      obtain ⟨r, hw⟩ := wrCell_some (K + 3) (topC i t l s u) 0 [] (dep_top hD1 hD2)
      have hS := save_ev h hl2 hw
      apply Ev.step
      · intro k
        rw [minstrellaw19_SnapWhole.j0]
      simp only [Bool.false_eq_true, if_false]
      refine Ev.bind ho (Ev.bind hS ?_)
      have hok := @saveV_ok i l r
      generalize saveV i l r = p at hok hS
      by_cases h0 : p.2 = 0
      · obtain ⟨hm, hi, hr, hx, hp⟩ := hok h0
        obtain ⟨xs, e0⟩ := r
        obtain rfl : e0 = 0 := hr
        obtain ⟨hbx, _⟩ := wr_bytes h hm hw
        have hxl : xs.length ≤ 1048320 := by have hx2 : ¬ (xs.length : Int) > 1048320 := hx; omega
        subst hp
        have hL : (frameL xs).length = 8 + xs.length := frameL_length xs
        have hLi : ((frameL xs).length : Int) = ((8 + xs.length : Nat) : Int) := by rw [hL]
        obtain ⟨n1, hlt1, m1⟩ : ∃ n1 : Nat, n1 < 8 + xs.length ∧ Aside0 (Int.tmod (a : Int) ((8 + xs.length : Nat) : Int) = (n1 : Int)) := ⟨_, Nat.mod_lt _ (by omega), ⟨tmod_nat _ _⟩⟩
        obtain ⟨n2, hlt2, m2⟩ : ∃ n2 : Nat, n2 < 4 + xs.length ∧ Aside0 (Int.tmod (a : Int) ((4 + xs.length : Nat) : Int) = (n2 : Int)) := ⟨_, Nat.mod_lt _ (by omega), ⟨tmod_nat _ _⟩⟩
        obtain ⟨n3, hlt3, m3⟩ : ∃ n3 : Nat, n3 < 8 ∧ Aside0 (Int.tmod (a : Int) 8 = (n3 : Int)) := ⟨_, Nat.mod_lt _ (by omega), ⟨tmod_nat a 8⟩⟩
        have w1 := Aside0.mk (wrap64_in (a : Int) (by omega) (by omega))
        have w2 := Aside0.mk ((wrap64_in (((8 + xs.length : Nat) : Int) - 4) (by omega) (by omega)).trans (show ((8 + xs.length : Nat) : Int) - 4 = ((4 + xs.length : Nat) : Int) by omega))
        have w3 := Aside0.mk ((wrap64_in (4 + (n2 : Int)) (by omega) (by omega)).trans (show 4 + (n2 : Int) = ((4 + n2 : Nat) : Int) by omega))
        have w4 := Aside0.mk (wrap_j n3 hlt3)
        obtain ⟨r1, c1, e1, hF1, hE1⟩ := First_cut hbx (by omega : xs.length ≤ 1048576) hlt1
        obtain ⟨r2, c2, hF2⟩ := First_flip hbx (by omega : xs.length ≤ 1048576) (p := 8 * n2 + n3) (by omega)
        have hG1 := load_bad hF1 hE1
        have hG2 := load_bad hF2 (by decide)
        rw [← flip_eq (bytes_frame hbx) (by rw [hL]; omega) hlt3] at hG2
        have htl : ((frameL xs).take n1).length < 140737488355328 := by rw [List.length_take, hL]; omega
        simp only [if_true, hLi, w1.out, w2.out, m1.out, m2.out, m3.out, w3.out, w4.out, Option.bind_some, List.length_nil, Int.toNat_natCast, List.nil_append, shl_bit n3 hlt3,
          if_neg (show ¬ ((8 + xs.length : Nat) : Int) < 8 by omega), if_neg (show ¬ ((8 + xs.length : Nat) : Int) = 0 by omega), if_pos (show (0 : Int) ≤ (n1 : Int) by omega), if_pos (show (n1 : Int) ≤ ((8 + xs.length : Nat) : Int) by omega), if_pos (show 0 + ((frameL xs).take n1).length < 140737488355328 by omega)]
        refine Ev.bind hG1 ?_
        simp only [if_neg (show ¬ ((4 + xs.length : Nat) : Int) = 0 by omega), if_pos (show (0 : Int) ≤ ((4 + n2 : Nat) : Int) by omega), if_pos (show ((4 + n2 : Nat) : Int) < ((8 + xs.length : Nat) : Int) by omega), if_pos (show (0 : Int) ≤ (n3 : Int) by omega)]
        refine Ev.bind hG2 ?_
        simp only [if_true]
        exact Ev.bind hll (Ev.now _)
      · simp only [if_neg h0]
        exact Ev.bind hll (Ev.now _)
end Go.Proofs.YtlkaffbgekbcfaaDoor.Pure
end
section
namespace Go.Proofs.YtlkaffbgekbcfaaDoor.Pr
open Go.ChangeShapes Go.WideShapes Go.RowKit Go.Proofs.YtlkaffbgekbcfaaDoorW.PrintWords Go.Proofs.YtlkaffbgekbcfaaDoorW.PrintLast Go.Proofs.YtlkaffbgekbcfaaDoorW.PrintMore
set_option linter.unusedVariables false
set_option linter.unusedSimpArgs false
set_option maxRecDepth 100000
theorem open_row {H : Type} {enc : TypeId × Value → H} {w : World} {fuel : Nat} {v : Value} {x : DataW H × List MemPlace} (h : DataW.trod enc Tryd.prog w 0 (fun _ => true) true fuel 23 [v] = some x) :
    ∃ (l : List Int) (A : Option Addr) (cap : Nat), v = .slice A l.length cap ∧ Kd.C (Kd.int .i64) w A l.length l ∧ l.length ≤ cap ∧ l.length ≤ maxLen ∧ (∀ n ∈ l, (Lit.int .i64 n).wf = true) ∧ ((∀ n ∈ x.1.weights Tryd.prog 23, n ≤ reachBytes) → l.length * 8 ≤ 140737488351232) := by
  rcases open_ints Tryd.underlying23 Tryd.underlying3 (by kernel_rfl) h with ⟨hcs, _⟩ | ⟨a, len, cap, zs, hcs, _, hl, hm, hz, hx, hcell, hwz⟩
  · injection hcs with hcs _
    exact ⟨[], none, 0, hcs, Kd.C_nil _ _, Nat.le_refl _, Nat.zero_le _, (fun n hn => by cases hn), fun _ => Nat.zero_le _⟩
  · injection hcs with hcs _
    have hz' : zs.length = cap := by simpa using hz
    obtain ⟨l, hlen, hr, hml, hwl, hc⟩ := ReadsInt.ofRowC (k := .i64) (w := w) (a := some a) (len := len) (cap := cap) (zs := zs) (.inr ⟨a, rfl, hl, hm, hz', hcell, hwz⟩)
    subst hlen
    refine ⟨l, some a, cap, hcs, Kd.C_of_reads (d := (0 : Int)) (h1 := fun _ => rfl) hr, hc, hml, hwl, fun hall => ?_⟩
    have h1 := hall ((zs.take l.length).length * 8 + (zs.drop l.length).length * 8) (by
      rw [hx]
      simp only [DataW.weights, Tryd.underlying23, lits, List.length_map]
      rw [show Tryd.prog.bytesOf 3 = 8 by kernel_rfl, ← Nat.add_mul]
      exact List.mem_cons_self)
    rw [← Nat.add_mul, ← List.length_append, List.take_append_drop, hz'] at h1
    have : cap * 8 ≤ 140737488351232 := h1
    omega
theorem open_snap {H : Type} {enc : TypeId × Value → H} {w : World} {r : Reach} {b0 : Nat} {v : Value} {d : DataW H} {ps : List MemPlace} (hval : Value.okWide Tryd.prog w r b0 28 v) (hd : DataW.Trod enc Tryd.prog w 0 (fun _ => true) true 28 v d ps) :
    ∃ (i t : Int) (l : List Int) (s u : S26) (A A1 A2 : Option Addr) (cap cap1 cap2 : Nat),
      v = .agg #[.int .u64 i, .int .u64 t, .slice A l.length cap, .int .i64 s.f0, .int .u64 s.f1, .string s.f2, .slice A1 s.f3.length cap1, .int .i64 u.f0, .int .u64 u.f1, .string u.f2, .slice A2 u.f3.length cap2] ∧
      (Kd.C (Kd.int .i64) w A l.length l ∧ l.length ≤ cap ∧ l.length ≤ maxLen) ∧ (Kd.C k26 w A1 s.f3.length s.f3 ∧ s.f3.length ≤ cap1) ∧ (Kd.C k26 w A2 u.f3.length u.f3 ∧ u.f3.length ≤ cap2) ∧
      (Lit.int .u64 i).wf = true ∧ (Lit.int .u64 t).wf = true ∧ (∀ n ∈ l, (Lit.int .i64 n).wf = true) ∧ (∀ j, wfc j s) ∧ (∀ j, wfc j u) ∧
      ((∀ n ∈ d.weights Tryd.prog 28, n ≤ reachBytes) → l.length * 8 ≤ 140737488351232 ∧ (∀ j, szc j s) ∧ (∀ j, szc j u)) := by
  obtain ⟨cs, rfl, hsz⟩ := Go.WideShapes.okWide_struct Tryd.underlying28 hval
  obtain ⟨fuel, h⟩ := hd
  obtain ⟨xs, n, hn, hx, hl, hlen, hf⟩ := DataW.trod_struct Tryd.underlying28 h
  obtain ⟨rfl, -⟩ := Prod.mk.inj hx
  obtain ⟨cs⟩ := cs
  have hl11 : cs.length = 11 := hl
  obtain ⟨v0, v1, v2, v3, v4, v5, v6, v7, v8, v9, v10, rfl⟩ : ∃ v0 v1 v2 v3 v4 v5 v6 v7 v8 v9 v10, cs = [v0, v1, v2, v3, v4, v5, v6, v7, v8, v9, v10] := by
    match cs, hl11 with
    | [a, b, c, d, e, f, g, h, i, j, k], _ => exact ⟨a, b, c, d, e, f, g, h, i, j, k, rfl⟩
  have hxl : xs.length = 5 := hlen
  obtain ⟨y0, y1, y2, y3, y4, rfl⟩ : ∃ y0 y1 y2 y3 y4, xs = [y0, y1, y2, y3, y4] := by
    match xs, hxl with
    | [a, b, c, d, e], _ => exact ⟨a, b, c, d, e, rfl⟩
  have g0 : DataW.trod enc Tryd.prog w 0 (fun _ => true) true n 22 [v0] = some y0 := hf 0 _ rfl
  have g1 : DataW.trod enc Tryd.prog w 0 (fun _ => true) true n 22 [v1] = some y1 := hf 1 _ rfl
  have g2 : DataW.trod enc Tryd.prog w 0 (fun _ => true) true n 23 [v2] = some y2 := hf 2 _ rfl
  have g3 : DataW.trod enc Tryd.prog w 0 (fun _ => true) true n 26 [v3, v4, v5, v6] = some y3 := hf 3 _ rfl
  have g4 : DataW.trod enc Tryd.prog w 0 (fun _ => true) true n 26 [v7, v8, v9, v10] = some y4 := hf 4 _ rfl
  obtain ⟨i, e0, _, w0⟩ := DataW.trod_int Tryd.underlying22 g0
  obtain ⟨t, e1, _, w1⟩ := DataW.trod_int Tryd.underlying22 g1
  injection e0 with e0 _
  injection e1 with e1 _
  obtain ⟨l, A, cap, e2, hC, hc, hm, hw, hz⟩ := open_row g2
  obtain ⟨s, hK, hws, hzs⟩ := open_cells n _ _ g3
  obtain ⟨u, hK2, hwu, hzu⟩ := open_cells n _ _ g4
  obtain ⟨A1, cap1, e3, hle1, hC1⟩ := k26_open hK
  obtain ⟨A2, cap2, e4, hle2, hC2⟩ := k26_open hK2
  injection e3 with e30 e3; injection e3 with e31 e3; injection e3 with e32 e3; injection e3 with e33 e3
  injection e4 with e40 e4; injection e4 with e41 e4; injection e4 with e42 e4; injection e4 with e43 e4
  refine ⟨i, t, l, s, u, A, A1, A2, cap, cap1, cap2, ?_, ⟨hC, hc, hm⟩, ⟨hC1, hle1⟩, ⟨hC2, hle2⟩, w0, w1, hw, hws, hwu, fun hall => ?_⟩
  · rw [e0, e1, e2, e30, e31, e32, e33, e40, e41, e42, e43]
  · have hfs : ∀ n, n ∈ (y2.1.weights Tryd.prog 23) ∨ n ∈ (y3.1.weights Tryd.prog 26) ∨ n ∈ (y4.1.weights Tryd.prog 26) → n ∈ DataW.weights Tryd.prog 28 (.agg [y0.1, y1.1, y2.1, y3.1, y4.1]) := by
      intro n hn
      simp only [DataW.weights, Tryd.underlying28]
      show n ∈ DataW.weightsEach Tryd.prog [22, 22, 23, 26, 26] [y0.1, y1.1, y2.1, y3.1, y4.1]
      simp only [DataW.weightsEach, List.mem_append, List.append_nil]
      rcases hn with hn | hn | hn
      · exact .inr (.inr (.inl hn))
      · exact .inr (.inr (.inr (.inl hn)))
      · exact .inr (.inr (.inr (.inr hn)))
    exact ⟨hz fun n hn => hall n (hfs n (.inl hn)), hzs fun n hn => hall n (hfs n (.inr (.inl hn))), hzu fun n hn => hall n (hfs n (.inr (.inr hn)))⟩
end Go.Proofs.YtlkaffbgekbcfaaDoor.Pr
end
