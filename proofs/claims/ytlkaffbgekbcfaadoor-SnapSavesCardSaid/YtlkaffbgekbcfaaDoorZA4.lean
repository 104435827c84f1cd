/- A part of the proof of the law that RowSnapSaves shows: lemmas, and contracts of the calls that it reaches. -/
import Derived.Test.YtlkaffbgekbcfaaDoorProg
import Derived.Below
import Derived.Deep.Draws
import Derived.Deep.AppendLies
import Derived.Maps.AppendAt
import Derived.OwnWalk
import Derived.Laws.BytesArg
import Derived.Laws.MakeOwn
import Derived.Laws.OwnMore
import Derived.Deep.OwnRows
import Derived.Tactics
import Derived.Lib.ConvBytes
import Derived.Laws.Slices
import Derived.WalkKit
import Derived.KernelRfl
import Derived.RowKit3
import Derived.Deep.LoopGhost
import Derived.Deep.QuietTactic
import Derived.BigQuiet
import Derived.WideLaws
import Derived.Deep.DeepCutAuto
import Derived.Deep.CutBlock
import Derived.Deep.RegionHeld3
import Derived.Laws.Rows
import Derived.Lib.AppendStr
import Derived.ArgAppend
import Derived.Laws.IdiomCopy
import Derived.OrdersHeld
import Derived.Laws.BitsLemmas
import Derived.RowKit
import Derived.Test.YtlkaffbgekbcfaaDoorZA0
import Derived.Test.YtlkaffbgekbcfaaDoorZA1
import Derived.Test.YtlkaffbgekbcfaaDoorZA3
section
namespace Go.Proofs.YtlkaffbgekbcfaaDoor.Pr
open Go.RowKit Go.Proofs.YtlkaffbgekbcfaaDoorW.PrintWords Go.Proofs.YtlkaffbgekbcfaaDoorW.PrintLast Go.Proofs.YtlkaffbgekbcfaaDoorW.PrintMore
attribute [local go_sem] max2_int min2_int max_two min_two max_three min_three max_four min_four
set_option linter.unusedVariables false
set_option linter.unusedSimpArgs false
def minstrelref19_Save.f (k : Nat) (a0_0 : Int) (a0_1 : Int) (l0_2 : List Int) (a0_3 : Int) (a0_4 : Int) (a0_5 : ByteArray) (l0_6 : List (S26)) (a0_7 : Int) (a0_8 : Int) (a0_9 : ByteArray) (l0_10 : List (S26)) : Option (List Int × Int) := (minstrelref19_Members.f k l0_2).bind fun t361 => (if t361 = true then (if a0_0 > 4611686018427387904 then (some (([] : List Int), 2)) else ((minstrelref07_Number.f a0_0).bind fun bt362 => ((minstrelref07_Number.f a0_1).bind fun bt368 => ((minstrelref19_members.f k l0_2).bind fun bt374 => ((minstrelref07_List.f (([(⟨bt362.1, bt362.2.1, bt362.2.2.1, bt362.2.2.2⟩ : S26), (⟨bt368.1, bt368.2.1, bt368.2.2.1, bt368.2.2.2⟩ : S26), (⟨bt374.1, bt374.2.1, bt374.2.2.1, bt374.2.2.2⟩ : S26), (⟨a0_3, a0_4, a0_5, l0_6⟩ : S26), (⟨a0_7, a0_8, a0_9, l0_10⟩ : S26)] : List (S26)))).bind fun bt383 => ((minstrelref07_Encode.f k bt383.1 bt383.2.1 bt383.2.2.1 bt383.2.2.2).bind fun bt389 => (if bt389.2 = 0 then (if (bt389.1.length : Int) > 1048320 then (some (([] : List Int), 2)) else ((minstrelref06_Frame.f k bt389.1).bind fun t393 => (some (t393, 0)))) else (some (([] : List Int), bt389.2))))))))) else (some (([] : List Int), 1)))
theorem minstrelref19_Save.mono : ∀ a0 a1 a2 a3 a4 a5 a6 a7 a8 a9 a10 k, LeO (minstrelref19_Save.f k a0 a1 a2 a3 a4 a5 a6 a7 a8 a9 a10) (minstrelref19_Save.f (k + 1) a0 a1 a2 a3 a4 a5 a6 a7 a8 a9 a10) := by
 intro a0 a1 a2 a3 a4 a5 a6 a7 a8 a9 a10 k
 unfold minstrelref19_Save.f
 repeat' first
   | (with_reducible exact minstrelref06_Frame.mono _ _)
   | (with_reducible exact minstrelref07_Encode.mono _ _ _ _ _)
   | (with_reducible exact minstrelref19_Members.mono _ _)
   | (with_reducible exact minstrelref19_members.mono _ _)
   | (with_reducible exact LeO.refl _)
   | (with_reducible exact LeO.none _)
   | (with_reducible refine LeO.ite ?_ ?_)
   | (with_reducible refine LeO.bind ?_ (fun _ => ?_))
   | exact minstrelref06_Frame.mono _ _
   | exact minstrelref07_Encode.mono _ _ _ _ _
   | exact minstrelref19_Members.mono _ _
   | exact minstrelref19_members.mono _ _
   | exact LeO.none _
   | refine LeO.ite ?_ ?_
   | refine LeO.bind ?_ (fun _ => ?_)
def minstrelref19_Save.T5 : Bool × List (List Nat × List Nat) := (true, [([], []), ([0], [0]), ([1], [1]), ([], []), ([3], [3]), ([4, 2], [4]), ([], []), ([6], [6]), ([7, 5], [7]), ([], []), ([9], [9]), ([], []), ([11], [11]), ([2, 5, 8, 10, 12], [2, 5, 8, 10, 12]), ([13, 8], [13]), ([14, 14], [14]), ([15], [15]), ([16], [16]), ([16], [16]), ([17, 15, 0, 1, 2, 3, 4, 5, 6, 7, 8, 9, 10, 11, 12, 13, 14, 15, 16, 17], [17]), ([18, 19, 0, 1, 2, 3, 4, 5, 6, 7, 8, 9, 10, 11, 12, 13, 14, 15, 16, 17, 18, 19], [18])])
def minstrelref19_Save.B5 : List Nat := [0, 1, 3, 0, 8, 31, 0, 64, 255, 0, 512, 0, 2048, 8191, 16383, 32767, 65535, 131071, 131071, 262143, 1048575]
theorem minstrelref19_Save.tab5 : rtab .any (opsOf Tryd.f11 5) = minstrelref19_Save.T5 := by kernel_rfl
theorem minstrelref19_Save.bits5 : waitsOk minstrelref19_Save.T5.2 minstrelref19_Save.B5 = true := by kernel_rfl
set_option maxHeartbeats 8000000 in
set_option maxRecDepth 100000 in
theorem minstrelref19_Save.calls (k : Nat) (a0_0 : Int) (a0_1 : Int) (A0_2 : Option Addr) (c0_2 : Nat) (l0_2 : List Int) (a0_3 : Int) (a0_4 : Int) (a0_5 : ByteArray) (P0_6_ : Nat → Prop) (A0_6 : Option Addr) (c0_6 : Nat) (l0_6 : List (S26)) (a0_7 : Int) (a0_8 : Int) (a0_9 : ByteArray) (P0_10_ : Nat → Prop) (A0_10 : Option Addr) (c0_10 : Nat) (l0_10 : List (S26)) (r1 : List Int) (r2 : Int) (w : World) (hr0_2 : Kd.C (Kd.int .i64) w A0_2 l0_2.length l0_2) (hc0_2 : l0_2.length ≤ c0_2) (hs0_6 : Kd.V k26 26 w w.heap.size (fun k_ => P0_6_ k_) (.slice A0_6 l0_6.length c0_6) l0_6) (hs0_10 : Kd.V k26 26 w w.heap.size (fun k_ => P0_10_ k_) (.slice A0_10 l0_10.length c0_10) l0_10) (h : minstrelref19_Save.f k a0_0 a0_1 l0_2 a0_3 a0_4 a0_5 l0_6 a0_7 a0_8 a0_9 l0_10 = some (r1, r2)) :
  Calls Tryd.prog 11 #[.agg #[.int .u64 a0_0, .int .u64 a0_1, .slice A0_2 l0_2.length c0_2, .int .i64 a0_3, .int .u64 a0_4, .string a0_5, .slice A0_6 l0_6.length c0_6, .int .i64 a0_7, .int .u64 a0_8, .string a0_9, .slice A0_10 l0_10.length c0_10]] w fun e w' => ∃ v0_ : Value, e = .returned (.tuple #[v0_, .int .i64 r2]) ∧ Kd.R (Kd.int .u8) 5 w' w.heap.size (fun k_ => (w.heap.size ≤ k_)) v0_ r1 ∧ Below w.heap.size w w' := by
 have hu28 := Tryd.underlying28
 have hu26 := Tryd.underlying26
 have HR0_2 := Aside0.mk hr0_2
 have HC0_2 := Aside0.mk hc0_2
 clear hr0_2 hc0_2
 have HO0_6 := Aside0.mk (show Kd.V k26 26 w w.heap.size (fun k_ => ((P0_6_ k_ ∨ P0_10_ k_) ∨ w.heap.size ≤ k_)) (.slice A0_6 l0_6.length c0_6) l0_6 from Kd.V_mono hs0_6 (fun k_ hk => .inl (.inl hk)))
 have HO0_10 := Aside0.mk (show Kd.V k26 26 w w.heap.size (fun k_ => ((P0_6_ k_ ∨ P0_10_ k_) ∨ w.heap.size ≤ k_)) (.slice A0_10 l0_10.length c0_10) l0_10 from Kd.V_mono hs0_10 (fun k_ hk => .inl (.inr hk)))
 have HB := Aside0.mk (Below.refl w.heap.size w)
 have H : ((minstrelref19_Members.f k l0_2).bind fun t361 => (if t361 = true then (if a0_0 > 4611686018427387904 then (some (([] : List Int), 2)) else ((minstrelref07_Number.f a0_0).bind fun bt362 => ((minstrelref07_Number.f a0_1).bind fun bt368 => ((minstrelref19_members.f k l0_2).bind fun bt374 => ((minstrelref07_List.f (([(⟨bt362.1, bt362.2.1, bt362.2.2.1, bt362.2.2.2⟩ : S26), (⟨bt368.1, bt368.2.1, bt368.2.2.1, bt368.2.2.2⟩ : S26), (⟨bt374.1, bt374.2.1, bt374.2.2.1, bt374.2.2.2⟩ : S26), (⟨a0_3, a0_4, a0_5, l0_6⟩ : S26), (⟨a0_7, a0_8, a0_9, l0_10⟩ : S26)] : List (S26)))).bind fun bt383 => ((minstrelref07_Encode.f k bt383.1 bt383.2.1 bt383.2.2.1 bt383.2.2.2).bind fun bt389 => (if bt389.2 = 0 then (if (bt389.1.length : Int) > 1048320 then (some (([] : List Int), 2)) else ((minstrelref06_Frame.f k bt389.1).bind fun t393 => (some (t393, 0)))) else (some (([] : List Int), bt389.2))))))))) else (some (([] : List Int), 1)))) = some (r1, r2) := h
 clear h
 replace H := Option.bind_eq_some_iff.mp H
 obtain ⟨t361, A20, H⟩ := H
 replace H : (if t361 = true then (if a0_0 > 4611686018427387904 then (some (([] : List Int), 2)) else ((minstrelref07_Number.f a0_0).bind fun bt362 => ((minstrelref07_Number.f a0_1).bind fun bt368 => ((minstrelref19_members.f k l0_2).bind fun bt374 => ((minstrelref07_List.f (([(⟨bt362.1, bt362.2.1, bt362.2.2.1, bt362.2.2.2⟩ : S26), (⟨bt368.1, bt368.2.1, bt368.2.2.1, bt368.2.2.2⟩ : S26), (⟨bt374.1, bt374.2.1, bt374.2.2.1, bt374.2.2.2⟩ : S26), (⟨a0_3, a0_4, a0_5, l0_6⟩ : S26), (⟨a0_7, a0_8, a0_9, l0_10⟩ : S26)] : List (S26)))).bind fun bt383 => ((minstrelref07_Encode.f k bt383.1 bt383.2.1 bt383.2.2.1 bt383.2.2.2).bind fun bt389 => (if bt389.2 = 0 then (if (bt389.1.length : Int) > 1048320 then (some (([] : List Int), 2)) else ((minstrelref06_Frame.f k bt389.1).bind fun t393 => (some (t393, 0)))) else (some (([] : List Int), bt389.2))))))))) else (some (([] : List Int), 1))) = some (r1, r2) := H
 have A2 := Aside0.mk A20
 clear A20
 by_cases c3 : t361 = true
 ·subst c3
  have H1 : (if a0_0 > 4611686018427387904 then (some (([] : List Int), 2)) else ((minstrelref07_Number.f a0_0).bind fun bt362 => ((minstrelref07_Number.f a0_1).bind fun bt368 => ((minstrelref19_members.f k l0_2).bind fun bt374 => ((minstrelref07_List.f (([(⟨bt362.1, bt362.2.1, bt362.2.2.1, bt362.2.2.2⟩ : S26), (⟨bt368.1, bt368.2.1, bt368.2.2.1, bt368.2.2.2⟩ : S26), (⟨bt374.1, bt374.2.1, bt374.2.2.1, bt374.2.2.2⟩ : S26), (⟨a0_3, a0_4, a0_5, l0_6⟩ : S26), (⟨a0_7, a0_8, a0_9, l0_10⟩ : S26)] : List (S26)))).bind fun bt383 => ((minstrelref07_Encode.f k bt383.1 bt383.2.1 bt383.2.2.1 bt383.2.2.2).bind fun bt389 => (if bt389.2 = 0 then (if (bt389.1.length : Int) > 1048320 then (some (([] : List Int), 2)) else ((minstrelref06_Frame.f k bt389.1).bind fun t393 => (some (t393, 0)))) else (some (([] : List Int), bt389.2))))))))) = some (r1, r2) := by rw [if_pos rfl] at H; exact H
  clear H
  have H := H1
  clear H1
  by_cases c4 : a0_0 > 4611686018427387904
  ·rw [if_pos c4] at H
   have c4b0 : decide (4611686018427387904 < a0_0) = true := decide_eq_true c4
   clear c4
   simp only [Option.some.injEq, Prod.mk.injEq] at H
   obtain ⟨rfl, rfl⟩ := H
   go_enter Tryd.func11, Tryd.ntmps11
   go_wp2_with (first | ((with_reducible refine gate_dst (N := 1) rfl ?_); refine box_event ?hg (N := 1) ?hd (cs := #[.int .u64 a0_0, .int .u64 a0_1, .slice A0_2 l0_2.length c0_2, .int .i64 a0_3, .int .u64 a0_4, .string a0_5, .slice A0_6 l0_6.length c0_6, .int .i64 a0_7, .int .u64 a0_8, .string a0_9, .slice A0_10 l0_10.length c0_10]) (t := 28) ?hr ?_; (case hd => rfl); (case hg => rfl); (case hr => first | (go_simp; done) | (go_simp; rfl)); intro gb360 hg w5 hbox hb; have n0_ := Aside0.mk (Kd.V_below (Kd.V_elderB (pV HO0_6.out) gb360 (Nat.le_of_eq hg.symm)) hb); have n1_ := Aside0.mk (Kd.V_below (Kd.V_elderB (pV HO0_10.out) gb360 (Nat.le_of_eq hg.symm)) hb); have n2_ := Aside0.mk (below_step pB hb); have n3_ := Aside0.mk (hbox); have n4_ := Aside0.mk ((by rw [hg]; exact (below_size pB) : w.heap.size ≤ gb360)); have n5_ := Aside0.mk ((by rw [hg]; exact (below_size pB) : w.heap.size ≤ gb360)); clear HO0_6; clear HO0_10; clear HB; have HO0_6 := n0_; have HO0_10 := n1_; have HB := n2_; have BK360 := n3_; have GW360 := n4_; have GE360 := n5_; clear n0_ n1_ n2_ n3_ n4_ n5_; clear hb hbox hg; obtain ⟨hcz6_0, hcz6_1, hcz6_2, hcz6_3, hcz6_4, hcz6_5, hcz6_6, hcz6_7, hcz6_8, hcz6_9, hcz6_10, hfz6_0, hfz6_1, hfz6_2, hfz6_3, hfz6_4, hfz6_5, hfz6_6, hfz6_7, hfz6_8, hfz6_9, hfz6_10⟩ := cf11 BK360.out) | ((with_reducible refine gate_callee (f := 13) rfl ?_); refine goesL_ (some 8) rfl rfl Tryd.func13 (by kernel_rfl) rfl #[.slice A0_2 l0_2.length c0_2] rfl pM ?_; (with_reducible refine (minstrelref19_Members.calls k _ _ l0_2 true _ ?side1 ?side2 A2.out).mono ?_); (case side1 => exact pC (Kd.C_below HR0_2.out HB.out)); (case side2 => exact HC0_2.out); rintro e w' ⟨rfl, ⟨nd, rfl⟩⟩; refine ⟨_, rfl, ?_⟩))
   go_ret2
   exact ⟨_, pE, pZ, pB⟩
  ·rw [if_neg c4] at H
   have c4b0 : decide (4611686018427387904 < a0_0) = false := decide_eq_false c4
   clear c4
   replace H := Option.bind_eq_some_iff.mp H
   obtain ⟨⟨t362, t363, t364, t365⟩, A70, H⟩ := H
   replace H : ((minstrelref07_Number.f a0_1).bind fun bt368 => ((minstrelref19_members.f k l0_2).bind fun bt374 => ((minstrelref07_List.f (([(⟨t362, t363, t364, t365⟩ : S26), (⟨bt368.1, bt368.2.1, bt368.2.2.1, bt368.2.2.2⟩ : S26), (⟨bt374.1, bt374.2.1, bt374.2.2.1, bt374.2.2.2⟩ : S26), (⟨a0_3, a0_4, a0_5, l0_6⟩ : S26), (⟨a0_7, a0_8, a0_9, l0_10⟩ : S26)] : List (S26)))).bind fun bt383 => ((minstrelref07_Encode.f k bt383.1 bt383.2.1 bt383.2.2.1 bt383.2.2.2).bind fun bt389 => (if bt389.2 = 0 then (if (bt389.1.length : Int) > 1048320 then (some (([] : List Int), 2)) else ((minstrelref06_Frame.f k bt389.1).bind fun t393 => (some (t393, 0)))) else (some (([] : List Int), bt389.2))))))) = some (r1, r2) := H
   have A7 := Aside0.mk A70
   clear A70
   replace H := Option.bind_eq_some_iff.mp H
   obtain ⟨⟨t368, t369, t370, t371⟩, A80, H⟩ := H
   replace H : ((minstrelref19_members.f k l0_2).bind fun bt374 => ((minstrelref07_List.f (([(⟨t362, t363, t364, t365⟩ : S26), (⟨t368, t369, t370, t371⟩ : S26), (⟨bt374.1, bt374.2.1, bt374.2.2.1, bt374.2.2.2⟩ : S26), (⟨a0_3, a0_4, a0_5, l0_6⟩ : S26), (⟨a0_7, a0_8, a0_9, l0_10⟩ : S26)] : List (S26)))).bind fun bt383 => ((minstrelref07_Encode.f k bt383.1 bt383.2.1 bt383.2.2.1 bt383.2.2.2).bind fun bt389 => (if bt389.2 = 0 then (if (bt389.1.length : Int) > 1048320 then (some (([] : List Int), 2)) else ((minstrelref06_Frame.f k bt389.1).bind fun t393 => (some (t393, 0)))) else (some (([] : List Int), bt389.2)))))) = some (r1, r2) := H
   have A8 := Aside0.mk A80
   clear A80
   replace H := Option.bind_eq_some_iff.mp H
   obtain ⟨⟨t374, t375, t376, t377⟩, A90, H⟩ := H
   replace H : ((minstrelref07_List.f (([(⟨t362, t363, t364, t365⟩ : S26), (⟨t368, t369, t370, t371⟩ : S26), (⟨t374, t375, t376, t377⟩ : S26), (⟨a0_3, a0_4, a0_5, l0_6⟩ : S26), (⟨a0_7, a0_8, a0_9, l0_10⟩ : S26)] : List (S26)))).bind fun bt383 => ((minstrelref07_Encode.f k bt383.1 bt383.2.1 bt383.2.2.1 bt383.2.2.2).bind fun bt389 => (if bt389.2 = 0 then (if (bt389.1.length : Int) > 1048320 then (some (([] : List Int), 2)) else ((minstrelref06_Frame.f k bt389.1).bind fun t393 => (some (t393, 0)))) else (some (([] : List Int), bt389.2))))) = some (r1, r2) := H
   have A9 := Aside0.mk A90
   clear A90
   obtain ⟨y380, hy380⟩ : ∃ y_ : List (S26), y_ = (([(⟨t362, t363, t364, t365⟩ : S26), (⟨t368, t369, t370, t371⟩ : S26), (⟨t374, t375, t376, t377⟩ : S26), (⟨a0_3, a0_4, a0_5, l0_6⟩ : S26), (⟨a0_7, a0_8, a0_9, l0_10⟩ : S26)] : List (S26))) := ⟨_, rfl⟩
   replace H : ((minstrelref07_List.f y380).bind fun bt383 => ((minstrelref07_Encode.f k bt383.1 bt383.2.1 bt383.2.2.1 bt383.2.2.2).bind fun bt389 => (if bt389.2 = 0 then (if (bt389.1.length : Int) > 1048320 then (some (([] : List Int), 2)) else ((minstrelref06_Frame.f k bt389.1).bind fun t393 => (some (t393, 0)))) else (some (([] : List Int), bt389.2))))) = some (r1, r2) := by first | (rw [hy380]; with_reducible exact H) | (have H2_ := (Option.bind_some _ _).symm.trans H; rw [hy380]; with_reducible exact H2_) | (have H2_ := (Option.bind_some _ _).symm.trans H; with_reducible exact H2_) | with_reducible exact H | (rw [hy380]; exact H) | exact H
   have Ny380 := Aside0.mk hy380
   clear hy380
   replace H := Option.bind_eq_some_iff.mp H
   obtain ⟨⟨t383, t384, t385, t386⟩, A100, H⟩ := H
   replace H : ((minstrelref07_Encode.f k t383 t384 t385 t386).bind fun bt389 => (if bt389.2 = 0 then (if (bt389.1.length : Int) > 1048320 then (some (([] : List Int), 2)) else ((minstrelref06_Frame.f k bt389.1).bind fun t393 => (some (t393, 0)))) else (some (([] : List Int), bt389.2)))) = some (r1, r2) := H
   have A10 := Aside0.mk A100
   clear A100
   replace H := Option.bind_eq_some_iff.mp H
   obtain ⟨⟨t389, t392⟩, A110, H⟩ := H
   replace H : (if t392 = 0 then (if (t389.length : Int) > 1048320 then (some (([] : List Int), 2)) else ((minstrelref06_Frame.f k t389).bind fun t393 => (some (t393, 0)))) else (some (([] : List Int), t392))) = some (r1, r2) := H
   have A11 := Aside0.mk A110
   clear A110
   by_cases c12 : t392 = 0
   ·rw [if_pos c12] at H
    have c12b0 : (t392 == 0) = true := beq_iff_eq.mpr c12
    have c12b1 : (t392 != 0) = false := bne_eq_false_iff_eq.mpr c12
    clear c12
    by_cases c13 : (t389.length : Int) > 1048320
    ·rw [if_pos c13] at H
     have c13b0 : decide (1048320 < (t389.length : Int)) = true := decide_eq_true c13
     have c13b1 : decide (1048320 < t389.length) = true := decide_eq_true (by omega)
     clear c13
     simp only [Option.some.injEq, Prod.mk.injEq] at H
     obtain ⟨rfl, rfl⟩ := H
     go_enter Tryd.func11, Tryd.ntmps11
     try go_wp2_with (first | ((with_reducible refine gate_dst (N := 1) rfl ?_); refine box_event ?hg (N := 1) ?hd (cs := #[.int .u64 a0_0, .int .u64 a0_1, .slice A0_2 l0_2.length c0_2, .int .i64 a0_3, .int .u64 a0_4, .string a0_5, .slice A0_6 l0_6.length c0_6, .int .i64 a0_7, .int .u64 a0_8, .string a0_9, .slice A0_10 l0_10.length c0_10]) (t := 28) ?hr ?_; (case hd => rfl); (case hg => rfl); (case hr => first | (go_simp; done) | (go_simp; rfl)); intro gb360 hg w14 hbox hb; have n0_ := Aside0.mk (Kd.V_below (Kd.V_elderB (pV HO0_6.out) gb360 (Nat.le_of_eq hg.symm)) hb); have n1_ := Aside0.mk (Kd.V_below (Kd.V_elderB (pV HO0_10.out) gb360 (Nat.le_of_eq hg.symm)) hb); have n2_ := Aside0.mk (below_step pB hb); have n3_ := Aside0.mk (hbox); have n4_ := Aside0.mk ((by rw [hg]; exact (below_size pB) : w.heap.size ≤ gb360)); have n5_ := Aside0.mk ((by rw [hg]; exact (below_size pB) : w.heap.size ≤ gb360)); clear HO0_6; clear HO0_10; clear HB; have HO0_6 := n0_; have HO0_10 := n1_; have HB := n2_; have BK360 := n3_; have GW360 := n4_; have GE360 := n5_; clear n0_ n1_ n2_ n3_ n4_ n5_; clear hb hbox hg; obtain ⟨hcz15_0, hcz15_1, hcz15_2, hcz15_3, hcz15_4, hcz15_5, hcz15_6, hcz15_7, hcz15_8, hcz15_9, hcz15_10, hfz15_0, hfz15_1, hfz15_2, hfz15_3, hfz15_4, hfz15_5, hfz15_6, hfz15_7, hfz15_8, hfz15_9, hfz15_10⟩ := cf11 BK360.out) | ((with_reducible refine gate_callee (f := 13) rfl ?_); refine goesL_ (some 8) rfl rfl Tryd.func13 (by kernel_rfl) rfl #[.slice A0_2 l0_2.length c0_2] rfl pM ?_; (with_reducible refine (minstrelref19_Members.calls k _ _ l0_2 true _ ?side1 ?side2 A2.out).mono ?_); (case side1 => exact pC (Kd.C_below HR0_2.out HB.out)); (case side2 => exact HC0_2.out); rintro e w' ⟨rfl, ⟨nd, rfl⟩⟩; refine ⟨_, rfl, ?_⟩))
     (try (rw [drewN_self w14]; generalize hq_ : World.drewN w14 _ = w14; have n0_ : Aside0 (Kd.V k26 26 w14 w.heap.size (fun k_ => ((P0_6_ k_ ∨ P0_10_ k_) ∨ w.heap.size ≤ k_) ∧ k_ ≠ gb360) (.slice A0_10 l0_10.length c0_10) l0_10) := ⟨by rw [← hq_]; exact (pV HO0_10.out)⟩; have n1_ : Aside0 (Kd.V k26 26 w14 w.heap.size (fun k_ => ((P0_6_ k_ ∨ P0_10_ k_) ∨ w.heap.size ≤ k_) ∧ k_ ≠ gb360) (.slice A0_6 l0_6.length c0_6) l0_6) := ⟨by rw [← hq_]; exact (pV HO0_6.out)⟩; have n2_ : Aside0 (w14.heap[gb360]? = some (.cells #[.int .u64 a0_0, .int .u64 a0_1, .slice A0_2 l0_2.length c0_2, .int .i64 a0_3, .int .u64 a0_4, .string a0_5, .slice A0_6 l0_6.length c0_6, .int .i64 a0_7, .int .u64 a0_8, .string a0_9, .slice A0_10 l0_10.length c0_10] 28 (0, 0))) := ⟨by rw [← hq_]; exact (pK BK360.out)⟩; have n3_ : Aside0 (Below w.heap.size w w14) := ⟨by rw [← hq_]; exact pB⟩; clear HO0_10 HO0_6 BK360 HB hq_; have HO0_10 := n0_; have HO0_6 := n1_; have BK360 := n2_; have HB := n3_; clear n0_ n1_ n2_ n3_))
     have n0_ := Aside0.mk (Kd.V_drew HO0_6.out)
     have n1_ := Aside0.mk (Kd.V_drew HO0_10.out)
     have n2_ := Aside0.mk (blk_drew BK360.out)
     have n3_ := Aside0.mk (below_drew1 HB.out)
     clear HO0_6 HO0_10 BK360 HB; have HO0_6 := n0_; have HO0_10 := n1_; have BK360 := n2_; have HB := n3_; clear n0_ n1_ n2_ n3_
     refine start_ (n := 21) (S := fun w' => w'.cell? ⟨gb360, 0, none⟩ = some (.int .u64 a0_0) ∧ w'.cell? ⟨gb360, 1, none⟩ = some (.int .u64 a0_1) ∧ w'.cell? ⟨gb360, 2, none⟩ = some (.slice A0_2 l0_2.length c0_2) ∧ w'.cell? ⟨gb360, 3, none⟩ = some (.int .i64 a0_3) ∧ w'.cell? ⟨gb360, 4, none⟩ = some (.int .u64 a0_4) ∧ w'.cell? ⟨gb360, 5, none⟩ = some (.string a0_5) ∧ w'.cell? ⟨gb360, 6, none⟩ = some (.slice A0_6 l0_6.length c0_6) ∧ w'.cell? ⟨gb360, 7, none⟩ = some (.int .i64 a0_7) ∧ w'.cell? ⟨gb360, 8, none⟩ = some (.int .u64 a0_8) ∧ w'.cell? ⟨gb360, 9, none⟩ = some (.string a0_9) ∧ w'.cell? ⟨gb360, 10, none⟩ = some (.slice A0_10 l0_10.length c0_10)) (ds := []) #[false, false, false, false, false, false, false, false, false, false, false, false, false, false, false, false, false, false, false, false, false] (by kernel_rfl) rfl rfl ⟨cz0 BK360.out, cz1 BK360.out, cz2 BK360.out, cz3 BK360.out, cz4 BK360.out, cz5 BK360.out, cz6 BK360.out, cz7 BK360.out, cz8 BK360.out, cz9 BK360.out, cz10 BK360.out⟩ (fun hHeld => ?_); refine with_tabW minstrelref19_Save.tab5 minstrelref19_Save.bits5 (fun HT_ HW_ => ?_)
     generalize w14.drew = w16 at HO0_6 HO0_10 BK360 HB hHeld ⊢
     refine pure_ (i := 0) (N := some 14) (v := ?_) (a' := ?_) #[true, false, false, false, false, false, false, false, false, false, false, false, false, false, false, false, false, false, false, false, false] rfl rfl (any_of HT_.out (by kernel_rfl)) (fun _ _ _ h => h) (Or.inl ⟨by kernel_rfl, ?_⟩) ?_ ?_
     rotate_left
     ·intro w'
      go_simp
      with_reducible rfl
     rotate_left
     ·exact pA
     refine pure_ (i := 3) (N := some 17) (v := ?_) (a' := ?_) #[true, false, false, true, false, false, false, false, false, false, false, false, false, false, false, false, false, false, false, false, false] rfl rfl (any_of HT_.out (by kernel_rfl)) (fun _ _ _ h => h) (Or.inl ⟨by kernel_rfl, ?_⟩) ?_ ?_
     rotate_left
     ·intro w'
      go_simp
      with_reducible rfl
     rotate_left
     ·exact pA
     refine pure_ (i := 6) (N := some 20) (v := ?_) (a' := ?_) #[true, false, false, true, false, false, true, false, false, false, false, false, false, false, false, false, false, false, false, false, false] rfl rfl (any_of HT_.out (by kernel_rfl)) (fun _ _ _ h => h) (Or.inl ⟨by kernel_rfl, ?_⟩) ?_ ?_
     rotate_left
     ·intro w'
      go_simp
      with_reducible rfl
     rotate_left
     ·exact pA
     refine pure_ (i := 9) (N := some 23) (v := ?_) (a' := ?_) #[true, false, false, true, false, false, true, false, false, true, false, false, false, false, false, false, false, false, false, false, false] rfl rfl (any_of HT_.out (by kernel_rfl)) (fun _ _ _ h => h) (Or.inl ⟨by kernel_rfl, ?_⟩) ?_ ?_
     rotate_left
     ·intro w'
      go_simp
      with_reducible rfl
     rotate_left
     ·exact pA
     refine pure_ (i := 11) (N := some 25) (v := ?_) (a' := ?_) #[true, false, false, true, false, false, true, false, false, true, false, true, false, false, false, false, false, false, false, false, false] rfl rfl (any_of HT_.out (by kernel_rfl)) (fun _ _ _ h => h) (Or.inl ⟨by kernel_rfl, ?_⟩) ?_ ?_
     rotate_left
     ·intro w'
      go_simp
      with_reducible rfl
     rotate_left
     ·exact pA
     refine take_ (i := 1) (N := some 15) (v := ?_) (a' := ?_) #[true, true, false, true, false, false, true, false, false, true, false, true, false, false, false, false, false, false, false, false, false] rfl rfl (take_ofW HT_.out HW_.out (by kernel_rfl)) (fun _ _ _ h => h) (Or.inl ⟨by kernel_rfl, ?_⟩) hHeld ?_ ?_
     rotate_left
     ·rintro w' ⟨s0, s1, s2, s3, s4, s5, s6, s7, s8, s9, s10⟩
      go_simp
      with_reducible rfl
     rotate_left
     ·exact pA
     refine take_ (i := 4) (N := some 18) (v := ?_) (a' := ?_) #[true, true, false, true, true, false, true, false, false, true, false, true, false, false, false, false, false, false, false, false, false] rfl rfl (take_ofW HT_.out HW_.out (by kernel_rfl)) (fun _ _ _ h => h) (Or.inl ⟨by kernel_rfl, ?_⟩) hHeld ?_ ?_
     rotate_left
     ·rintro w' ⟨s0, s1, s2, s3, s4, s5, s6, s7, s8, s9, s10⟩
      go_simp
      with_reducible rfl
     rotate_left
     ·exact pA
     refine take_ (i := 7) (N := some 21) (v := ?_) (a' := ?_) #[true, true, false, true, true, false, true, true, false, true, false, true, false, false, false, false, false, false, false, false, false] rfl rfl (take_ofW HT_.out HW_.out (by kernel_rfl)) (fun _ _ _ h => h) (Or.inl ⟨by kernel_rfl, ?_⟩) hHeld ?_ ?_
     rotate_left
     ·rintro w' ⟨s0, s1, s2, s3, s4, s5, s6, s7, s8, s9, s10⟩
      go_simp
      with_reducible rfl
     rotate_left
     ·exact pA
     refine take_ (i := 10) (N := some 24) (v := ?_) (a' := ?_) #[true, true, false, true, true, false, true, true, false, true, true, true, false, false, false, false, false, false, false, false, false] rfl rfl (take_ofW HT_.out HW_.out (by kernel_rfl)) (fun _ _ _ h => h) (Or.inl ⟨by kernel_rfl, ?_⟩) hHeld ?_ ?_
     rotate_left
     ·rintro w' ⟨s0, s1, s2, s3, s4, s5, s6, s7, s8, s9, s10⟩
      go_simp
      with_reducible rfl
     rotate_left
     ·exact pA
     refine take_ (i := 12) (N := some 26) (v := ?_) (a' := ?_) #[true, true, false, true, true, false, true, true, false, true, true, true, true, false, false, false, false, false, false, false, false] rfl rfl (take_ofW HT_.out HW_.out (by kernel_rfl)) (fun _ _ _ h => h) (Or.inl ⟨by kernel_rfl, ?_⟩) hHeld ?_ ?_
     rotate_left
     ·rintro w' ⟨s0, s1, s2, s3, s4, s5, s6, s7, s8, s9, s10⟩
      go_simp
      with_reducible rfl
     rotate_left
     ·exact pA
     refine one_ (i := 2) (N := some 16) #[true, true, true, true, true, false, true, true, false, true, true, true, true, false, false, false, false, false, false, false, false] rfl rfl (one_of HT_.out (by kernel_rfl)) (by decide) (fun K hK => ?_)
     refine goes_ Tryd.func33 (by kernel_rfl) rfl #[.int .u64 a0_0] (by rfl) rfl rfl pM ?_
     with_reducible refine (minstrelref07_Number.calls a0_0 t362 t363 t364 t365 _ A7.out).mono ?_
     rintro e w17 ⟨v366, rfl, ho0, hb⟩
     refine ⟨_, rfl, ?_⟩
     have n0_ := Aside0.mk (Kd.V_elder' (pV HO0_6.out) (by first | exact Kd.R_base ho0 | exact Kd.N_base ho0) hb)
     have n1_ := Aside0.mk (Kd.V_elder' (pV HO0_10.out) (by first | exact Kd.R_base ho0 | exact Kd.N_base ho0) hb)
     have n2_ := Aside0.mk (Kd.N_lower (Kd.N_mono (ok' := fun k_ => ((P0_6_ k_ ∨ P0_10_ k_) ∨ w.heap.size ≤ k_) ∧ k_ ≠ gb360) (Kd.R_N (Kd.R_bound ho0)) (fun k_ hk_ => ⟨(.inr (Nat.le_trans (below_size pB) hk_.2.1)), (Kd.freshB (g := gb360) (o := .cells #[.int .u64 a0_0, .int .u64 a0_1, .slice A0_2 l0_2.length c0_2, .int .i64 a0_3, .int .u64 a0_4, .string a0_5, .slice A0_6 l0_6.length c0_6, .int .i64 a0_7, .int .u64 a0_8, .string a0_9, .slice A0_10 l0_10.length c0_10] 28 (0, 0)) (pK BK360.out) k_ hk_.2.1)⟩)) (below_size pB))
     have n3_ := Aside0.mk (pkb BK360.out hb)
     have n4_ := Aside0.mk (below_step pB hb)
     clear HO0_6 HO0_10 BK360 HB; have HO0_6 := n0_; have HO0_10 := n1_; have HO367 := n2_; have BK360 := n3_; have HB := n4_; clear n0_ n1_ n2_ n3_ n4_; (try clear hb); (try clear hb2); (try clear hk); (try clear hi); (try clear ho0)
     refine hK.out _ _ ⟨cz0 BK360.out, cz1 BK360.out, cz2 BK360.out, cz3 BK360.out, cz4 BK360.out, cz5 BK360.out, cz6 BK360.out, cz7 BK360.out, cz8 BK360.out, cz9 BK360.out, cz10 BK360.out⟩ (fun hHeld => ?_)
     clear hK K
     refine norm_ (a' := ?_) ?_ ?_
     rotate_left
     ·show Act.put _ (some 16) _ = _
      exact pA
     refine one_ (i := 5) (N := some 19) #[true, true, true, true, true, true, true, true, false, true, true, true, true, false, false, false, false, false, false, false, false] rfl rfl (one_of HT_.out (by kernel_rfl)) (by decide) (fun K hK => ?_)
     refine goes_ Tryd.func33 (by kernel_rfl) rfl #[.int .u64 a0_1] (by rfl) rfl rfl pM ?_
     with_reducible refine (minstrelref07_Number.calls a0_1 t368 t369 t370 t371 _ A8.out).mono ?_
     rintro e w18 ⟨v372, rfl, ho0, hb⟩
     refine ⟨_, rfl, ?_⟩
     have n0_ := Aside0.mk (Kd.V_elder' (pV HO0_6.out) (by first | exact Kd.R_base ho0 | exact Kd.N_base ho0) hb)
     have n1_ := Aside0.mk (Kd.V_elder' (pV HO0_10.out) (by first | exact Kd.R_base ho0 | exact Kd.N_base ho0) hb)
     have n2_ := Aside0.mk (Kd.N_elder' (pN HO367.out) (by first | exact Kd.R_base ho0 | exact Kd.N_base ho0) hb)
     have n3_ := Aside0.mk (Kd.N_lower (Kd.N_mono (ok' := fun k_ => ((P0_6_ k_ ∨ P0_10_ k_) ∨ w.heap.size ≤ k_) ∧ some k_ ≠ (v366 : Value).ownBlock ∧ k_ ≠ gb360) (Kd.R_N (Kd.R_bound ho0)) (fun k_ hk_ => ⟨(.inr (Nat.le_trans (below_size pB) hk_.2.1)), (Kd.fresh' (Kd.N_lt (pN HO367.out)) k_ hk_.2.1), (Kd.freshB (g := gb360) (o := .cells #[.int .u64 a0_0, .int .u64 a0_1, .slice A0_2 l0_2.length c0_2, .int .i64 a0_3, .int .u64 a0_4, .string a0_5, .slice A0_6 l0_6.length c0_6, .int .i64 a0_7, .int .u64 a0_8, .string a0_9, .slice A0_10 l0_10.length c0_10] 28 (0, 0)) (pK BK360.out) k_ hk_.2.1)⟩)) (below_size pB))
     have n4_ := Aside0.mk (pkb BK360.out hb)
     have n5_ := Aside0.mk (below_step pB hb)
     clear HO0_6 HO0_10 HO367 BK360 HB; have HO0_6 := n0_; have HO0_10 := n1_; have HO367 := n2_; have HO373 := n3_; have BK360 := n4_; have HB := n5_; clear n0_ n1_ n2_ n3_ n4_ n5_; (try clear hb); (try clear hb2); (try clear hk); (try clear hi); (try clear ho0)
     refine hK.out _ _ ⟨cz0 BK360.out, cz1 BK360.out, cz2 BK360.out, cz3 BK360.out, cz4 BK360.out, cz5 BK360.out, cz6 BK360.out, cz7 BK360.out, cz8 BK360.out, cz9 BK360.out, cz10 BK360.out⟩ (fun hHeld => ?_)
     clear hK K
     refine norm_ (a' := ?_) ?_ ?_
     rotate_left
     ·show Act.put _ (some 19) _ = _
      exact pA
     refine one_ (i := 8) (N := some 22) #[true, true, true, true, true, true, true, true, true, true, true, true, true, false, false, false, false, false, false, false, false] rfl rfl (one_of HT_.out (by kernel_rfl)) (by decide) (fun K hK => ?_)
     refine goes_ Tryd.func34 (by kernel_rfl) rfl #[.slice A0_2 l0_2.length c0_2] (by rfl) rfl rfl pM ?_
     with_reducible refine (minstrelref19_members.calls k _ _ l0_2 t374 t375 t376 t377 _ ?side1 ?side2 A9.out).mono ?_
     (case side1 => exact pC (Kd.C_below HR0_2.out HB.out))
     (case side2 => exact HC0_2.out)
     rintro e w19 ⟨v378, rfl, ho0, hb⟩
     refine ⟨_, rfl, ?_⟩
     have n0_ := Aside0.mk (Kd.V_below (pV HO0_6.out) hb)
     have n1_ := Aside0.mk (Kd.V_below (pV HO0_10.out) hb)
     have n2_ := Aside0.mk (Kd.N_below (pN HO367.out) hb)
     have n3_ := Aside0.mk (Kd.N_below (pN HO373.out) hb)
     have n4_ := Aside0.mk (Kd.V_lower (Kd.V_mono (ok' := fun k_ => ((P0_6_ k_ ∨ P0_10_ k_) ∨ w.heap.size ≤ k_) ∧ some k_ ≠ (v366 : Value).ownBlock ∧ some k_ ≠ (v372 : Value).ownBlock ∧ k_ ≠ gb360) ho0 (fun k_ hk_ => ⟨(.inr (Nat.le_trans (below_size pB) hk_)), (Kd.fresh' (Kd.N_lt (pN HO367.out)) k_ hk_), (Kd.fresh' (Kd.N_lt (pN HO373.out)) k_ hk_), (Kd.freshB (g := gb360) (o := .cells #[.int .u64 a0_0, .int .u64 a0_1, .slice A0_2 l0_2.length c0_2, .int .i64 a0_3, .int .u64 a0_4, .string a0_5, .slice A0_6 l0_6.length c0_6, .int .i64 a0_7, .int .u64 a0_8, .string a0_9, .slice A0_10 l0_10.length c0_10] 28 (0, 0)) (pK BK360.out) k_ hk_)⟩)) (below_size pB))
     have n5_ := Aside0.mk (pkb BK360.out hb)
     have n6_ := Aside0.mk (below_step pB hb)
     clear HO0_6 HO0_10 HO367 HO373 BK360 HB; have HO0_6 := n0_; have HO0_10 := n1_; have HO367 := n2_; have HO373 := n3_; have HO379 := n4_; have BK360 := n5_; have HB := n6_; clear n0_ n1_ n2_ n3_ n4_ n5_ n6_; (try clear hb); (try clear hb2); (try clear hk); (try clear hi); (try clear ho0)
     obtain ⟨Ao20, co20, eo20⟩ := Kd.N_slice HO367.out
     (first | subst eo20 | (injection eo20 with f1_ f2_ f3_; have f4_ := f1_.symm; have f5_ := f3_.symm; clear f1_ f2_ f3_; subst f4_; subst f5_))
     obtain ⟨Ao21, co21, eo21⟩ := Kd.N_slice HO373.out
     (first | subst eo21 | (injection eo21 with f1_ f2_ f3_; have f4_ := f1_.symm; have f5_ := f3_.symm; clear f1_ f2_ f3_; subst f4_; subst f5_))
     obtain ⟨Ao22, co22, eo22⟩ := Kd.V_slice HO379.out
     (first | subst eo22 | (injection eo22 with f1_ f2_ f3_; have f4_ := f1_.symm; have f5_ := f3_.symm; clear f1_ f2_ f3_; subst f4_; subst f5_))
     refine hK.out _ _ ⟨cz0 BK360.out, cz1 BK360.out, cz2 BK360.out, cz3 BK360.out, cz4 BK360.out, cz5 BK360.out, cz6 BK360.out, cz7 BK360.out, cz8 BK360.out, cz9 BK360.out, cz10 BK360.out⟩ (fun hHeld => ?_)
     clear hK K
     refine norm_ (a' := ?_) ?_ ?_
     rotate_left
     ·show Act.put _ (some 22) _ = _
      exact pA
     refine one_ (i := 13) (N := some 27) #[true, true, true, true, true, true, true, true, true, true, true, true, true, true, false, false, false, false, false, false, false] rfl rfl (one_of HT_.out (by kernel_rfl)) (by decide) (fun K hK => ?_)
     refine Kd.N_lit_step k26 _ 26 ?hg (N' := 27) ?hd (xs := ([(⟨t362, t363, t364, t365⟩ : S26), (⟨t368, t369, t370, t371⟩ : S26), (⟨t374, t375, t376, t377⟩ : S26), (⟨a0_3, a0_4, a0_5, l0_6⟩ : S26), (⟨a0_7, a0_8, a0_9, l0_10⟩ : S26)] : List (S26))) (inner := [.int .i64 t362, .int .u64 t363, .string t364, .slice Ao20 t365.length co20, .int .i64 t368, .int .u64 t369, .string t370, .slice Ao21 t371.length co21, .int .i64 t374, .int .u64 t375, .string t376, .slice Ao22 t377.length co22, .int .i64 a0_3, .int .u64 a0_4, .string a0_5, .slice A0_6 l0_6.length c0_6, .int .i64 a0_7, .int .u64 a0_8, .string a0_9, .slice A0_10 l0_10.length c0_10]) (ok := (fun k_ => ((P0_6_ k_ ∨ P0_10_ k_) ∨ w.heap.size ≤ k_) ∧ k_ ≠ gb360)) (okp := (fun k_ => ((P0_6_ k_ ∨ P0_10_ k_) ∨ w.heap.size ≤ k_) ∧ k_ ≠ gb360)) ?hr ?hp (fun _ hk => hk) ((show ∀ k_, w19.heap.size ≤ k_ → (fun k_ => ((P0_6_ k_ ∨ P0_10_ k_) ∨ w.heap.size ≤ k_) ∧ k_ ≠ gb360) k_ from fun k_ hk => ⟨(.inr (Nat.le_trans (below_size pB) hk)), Kd.freshB (g := gb360) (o := .cells #[.int .u64 a0_0, .int .u64 a0_1, .slice A0_2 l0_2.length c0_2, .int .i64 a0_3, .int .u64 a0_4, .string a0_5, .slice A0_6 l0_6.length c0_6, .int .i64 a0_7, .int .u64 a0_8, .string a0_9, .slice A0_10 l0_10.length c0_10] 28 (0, 0)) (pK BK360.out) k_ hk⟩) _ (Nat.le_refl _)) (Below.refl _ _) (Nat.le_refl _) (by simp) ?_; (case hd => rfl); (case hg => rfl); (case hr => first | (go_simp; done) | (go_simp; rfl)); (case hp => exact (Reps.c4 (show Kd.FK k26 _ _ (⟨t362, t363, t364, t365⟩ : S26) [.int .i64 t362, .int .u64 t363, .string t364, .slice Ao20 t365.length co20] from (k26_mkF _ _ (⟨t362, t363, t364, t365⟩ : S26) (Kd.N_reads' (Kd.N_mono (ok' := (fun k_ => ((P0_6_ k_ ∨ P0_10_ k_) ∨ w.heap.size ≤ k_) ∧ k_ ≠ gb360)) (HO367.out) (fun k_ hk => ⟨hk.1.1, hk.1.2⟩))).2.1 (Kd.N_F (Kd.N_mono (ok' := (fun k_ => ((P0_6_ k_ ∨ P0_10_ k_) ∨ w.heap.size ≤ k_) ∧ k_ ≠ gb360)) (HO367.out) (fun k_ hk => ⟨hk.1.1, hk.1.2⟩))))) (Reps.c4 (show Kd.FK k26 _ _ (⟨t368, t369, t370, t371⟩ : S26) [.int .i64 t368, .int .u64 t369, .string t370, .slice Ao21 t371.length co21] from (k26_mkF _ _ (⟨t368, t369, t370, t371⟩ : S26) (Kd.N_reads' (Kd.N_mono (ok' := (fun k_ => ((P0_6_ k_ ∨ P0_10_ k_) ∨ w.heap.size ≤ k_) ∧ k_ ≠ gb360)) (HO373.out) (fun k_ hk => ⟨hk.1, hk.2.2⟩))).2.1 (Kd.N_F (Kd.N_mono (ok' := (fun k_ => ((P0_6_ k_ ∨ P0_10_ k_) ∨ w.heap.size ≤ k_) ∧ k_ ≠ gb360)) (HO373.out) (fun k_ hk => ⟨hk.1, hk.2.2⟩))))) (Reps.c4 (show Kd.FK k26 _ _ (⟨t374, t375, t376, t377⟩ : S26) [.int .i64 t374, .int .u64 t375, .string t376, .slice Ao22 t377.length co22] from (k26_mkF _ _ (⟨t374, t375, t376, t377⟩ : S26) (Kd.V_reads' (Kd.V_mono (ok' := (fun k_ => ((P0_6_ k_ ∨ P0_10_ k_) ∨ w.heap.size ≤ k_) ∧ k_ ≠ gb360)) (HO379.out) (fun k_ hk => ⟨hk.1, hk.2.2.2⟩))).2.1 (Kd.V_F (Kd.V_mono (ok' := (fun k_ => ((P0_6_ k_ ∨ P0_10_ k_) ∨ w.heap.size ≤ k_) ∧ k_ ≠ gb360)) (HO379.out) (fun k_ hk => ⟨hk.1, hk.2.2.2⟩))))) (Reps.c4 (show Kd.FK k26 _ _ (⟨a0_3, a0_4, a0_5, l0_6⟩ : S26) [.int .i64 a0_3, .int .u64 a0_4, .string a0_5, .slice A0_6 l0_6.length c0_6] from (k26_mkF _ _ (⟨a0_3, a0_4, a0_5, l0_6⟩ : S26) (Kd.V_reads' (Kd.V_mono (ok' := (fun k_ => ((P0_6_ k_ ∨ P0_10_ k_) ∨ w.heap.size ≤ k_) ∧ k_ ≠ gb360)) (HO0_6.out) (fun k_ hk => ⟨hk.1.1.1, hk.1.1.2⟩))).2.1 (Kd.V_F (Kd.V_mono (ok' := (fun k_ => ((P0_6_ k_ ∨ P0_10_ k_) ∨ w.heap.size ≤ k_) ∧ k_ ≠ gb360)) (HO0_6.out) (fun k_ hk => ⟨hk.1.1.1, hk.1.1.2⟩))))) (Reps.c4 (show Kd.FK k26 _ _ (⟨a0_7, a0_8, a0_9, l0_10⟩ : S26) [.int .i64 a0_7, .int .u64 a0_8, .string a0_9, .slice A0_10 l0_10.length c0_10] from (k26_mkF _ _ (⟨a0_7, a0_8, a0_9, l0_10⟩ : S26) (Kd.V_reads' (Kd.V_mono (ok' := (fun k_ => ((P0_6_ k_ ∨ P0_10_ k_) ∨ w.heap.size ≤ k_) ∧ k_ ≠ gb360)) (HO0_10.out) (fun k_ hk => ⟨hk.1.1.1, hk.1.1.2⟩))).2.1 (Kd.V_F (Kd.V_mono (ok' := (fun k_ => ((P0_6_ k_ ∨ P0_10_ k_) ∨ w.heap.size ≤ k_) ∧ k_ ≠ gb360)) (HO0_10.out) (fun k_ hk => ⟨hk.1.1.1, hk.1.1.2⟩))))) (Reps.none _ _)))))))
     intro v381 w23 ho24 hb hg_ hnew_
     clear hg_ hnew_
     (first | rw [← Ny380.out] at ho24 | (simp only [Int.reduceToNat] at ho24; rw [← Ny380.out] at ho24))
     have n0_ := Aside0.mk (Kd.V_elder' (pV HO0_6.out) (by first | exact Kd.R_base ho24 | exact Kd.N_base ho24) hb)
     have n1_ := Aside0.mk (Kd.V_elder' (pV HO0_10.out) (by first | exact Kd.R_base ho24 | exact Kd.N_base ho24) hb)
     have n2_ := Aside0.mk (Kd.V_elder' (pV HO379.out) (by first | exact Kd.R_base ho24 | exact Kd.N_base ho24) hb)
     have n3_ := Aside0.mk (Kd.N_lower ho24 (below_size pB))
     have n4_ := Aside0.mk (pkb BK360.out hb)
     have n5_ := Aside0.mk (below_step pB hb)
     clear HO0_6 HO0_10 HO379 BK360 HB HO367 HO373; have HO0_6 := n0_; have HO0_10 := n1_; have HO379 := n2_; have HO382 := n3_; have BK360 := n4_; have HB := n5_; clear n0_ n1_ n2_ n3_ n4_ n5_ hb ho24
     obtain ⟨Ao25, co25, eo25⟩ := Kd.N_slice HO382.out
     (first | subst eo25 | (injection eo25 with f1_ f2_ f3_; have f4_ := f1_.symm; have f5_ := f3_.symm; clear f1_ f2_ f3_; subst f4_; subst f5_))
     refine hK.out _ _ ⟨cz0 BK360.out, cz1 BK360.out, cz2 BK360.out, cz3 BK360.out, cz4 BK360.out, cz5 BK360.out, cz6 BK360.out, cz7 BK360.out, cz8 BK360.out, cz9 BK360.out, cz10 BK360.out⟩ (fun hHeld => ?_)
     clear hK K
     refine norm_ (a' := ?_) ?_ ?_
     rotate_left
     ·show Act.put _ (some 27) _ = _
      exact pA
     refine one_ (i := 14) (N := some 28) #[true, true, true, true, true, true, true, true, true, true, true, true, true, true, true, false, false, false, false, false, false] rfl rfl (one_of HT_.out (by kernel_rfl)) (by decide) (fun K hK => ?_)
     refine goes_ Tryd.func32 (by kernel_rfl) rfl #[.slice Ao25 y380.length co25] (by rfl) rfl rfl pM ?_
     with_reducible refine (minstrelref07_List.calls (fun k_ => (((P0_6_ k_ ∨ P0_10_ k_) ∨ w.heap.size ≤ k_) ∧ k_ ≠ gb360)) _ _ y380 t383 t384 t385 t386 _ ?side1 A10.out).mono ?_
     (case side1 => exact Kd.N_V (HO382.out))
     rintro e w26 ⟨v387, rfl, ho0, hb⟩
     refine ⟨_, rfl, ?_⟩
     have n0_ := Aside0.mk (Kd.V_below (pV HO0_6.out) hb)
     have n1_ := Aside0.mk (Kd.V_below (pV HO0_10.out) hb)
     have n2_ := Aside0.mk (Kd.V_below (pV HO379.out) hb)
     have n3_ := Aside0.mk (Kd.N_below (pN HO382.out) hb)
     have n4_ := Aside0.mk (Kd.V_lower (Kd.V_mono (ok' := fun k_ => ((P0_6_ k_ ∨ P0_10_ k_) ∨ w.heap.size ≤ k_) ∧ k_ ≠ gb360) ho0 (fun k_ hk_ => ⟨Or.elim hk_ (fun hs_ => hs_.1) (fun hn_ => (.inr (Nat.le_trans (below_size pB) hn_))), Or.elim hk_ (fun hs_ => hs_.2) (fun hn_ => (Kd.freshB (g := gb360) (o := .cells #[.int .u64 a0_0, .int .u64 a0_1, .slice A0_2 l0_2.length c0_2, .int .i64 a0_3, .int .u64 a0_4, .string a0_5, .slice A0_6 l0_6.length c0_6, .int .i64 a0_7, .int .u64 a0_8, .string a0_9, .slice A0_10 l0_10.length c0_10] 28 (0, 0)) (pK BK360.out) k_ hn_))⟩)) (below_size pB))
     have n5_ := Aside0.mk (pkb BK360.out hb)
     have n6_ := Aside0.mk (below_step pB hb)
     clear HO0_6 HO0_10 HO379 HO382 BK360 HB; have HO0_6 := n0_; have HO0_10 := n1_; have HO379 := n2_; have HO382 := n3_; have HO388 := n4_; have BK360 := n5_; have HB := n6_; clear n0_ n1_ n2_ n3_ n4_ n5_ n6_; (try clear hb); (try clear hb2); (try clear hk); (try clear hi); (try clear ho0)
     obtain ⟨Ao27, co27, eo27⟩ := Kd.V_slice HO388.out
     (first | subst eo27 | (injection eo27 with f1_ f2_ f3_; have f4_ := f1_.symm; have f5_ := f3_.symm; clear f1_ f2_ f3_; subst f4_; subst f5_))
     refine hK.out _ _ ⟨cz0 BK360.out, cz1 BK360.out, cz2 BK360.out, cz3 BK360.out, cz4 BK360.out, cz5 BK360.out, cz6 BK360.out, cz7 BK360.out, cz8 BK360.out, cz9 BK360.out, cz10 BK360.out⟩ (fun hHeld => ?_)
     clear hK K
     refine norm_ (a' := ?_) ?_ ?_
     rotate_left
     ·show Act.put _ (some 28) _ = _
      exact pA
     refine one_ (i := 15) (N := some 29) #[true, true, true, true, true, true, true, true, true, true, true, true, true, true, true, true, false, false, false, false, false] rfl rfl (one_of HT_.out (by kernel_rfl)) (by decide) (fun K hK => ?_)
     refine goes_ Tryd.func31 (by kernel_rfl) rfl #[.agg #[.int .i64 t383, .int .u64 t384, .string t385, .slice Ao27 t386.length co27]] (by rfl) rfl rfl pM ?_
     with_reducible refine (minstrelref07_Encode.calls k t383 t384 t385 _ _ t386 t389 t392 _ ?side1 ?side2 A11.out).mono ?_
     (case side1 => repeat (first | exact (Kd.V_reads' HO388.out).2.2 | (with_reducible refine Kd.C_alloc ?_ _) | (with_reducible refine Kd.C_drewN ?_ _) | (with_reducible refine Kd.C_drew ?_)))
     (case side2 => exact (Kd.V_reads' HO388.out).2.1)
     rintro e w28 ⟨v390, rfl, ho0, hb⟩
     refine ⟨_, rfl, ?_⟩
     have n0_ := Aside0.mk (Kd.V_elder' (pV HO0_6.out) (Kd.R_base ho0) hb)
     have n1_ := Aside0.mk (Kd.V_elder' (pV HO0_10.out) (Kd.R_base ho0) hb)
     have n2_ := Aside0.mk (Kd.V_elder' (pV HO379.out) (Kd.R_base ho0) hb)
     have n3_ := Aside0.mk (Kd.N_elder' (pN HO382.out) (Kd.R_base ho0) hb)
     have n4_ := Aside0.mk (Kd.V_elder' (pV HO388.out) (Kd.R_base ho0) hb)
     have n5_ := Aside0.mk (Kd.R_lower (Kd.R_newM (M := fun k_ => (w.heap.size ≤ k_)) ho0 (below_size pB) (fun k_ h_ => h_)) (below_size pB))
     have n6_ := Aside0.mk (pkb BK360.out hb)
     have n7_ := Aside0.mk (below_step pB hb)
     clear HO0_6 HO0_10 HO379 HO382 HO388 BK360 HB; have HO0_6 := n0_; have HO0_10 := n1_; have HO379 := n2_; have HO382 := n3_; have HO388 := n4_; have HO391 := n5_; have BK360 := n6_; have HB := n7_; clear n0_ n1_ n2_ n3_ n4_ n5_ n6_ n7_; (try clear hb); (try clear hb2); (try clear hk); (try clear hi); (try clear ho0)
     refine hK.out _ _ ⟨cz0 BK360.out, cz1 BK360.out, cz2 BK360.out, cz3 BK360.out, cz4 BK360.out, cz5 BK360.out, cz6 BK360.out, cz7 BK360.out, cz8 BK360.out, cz9 BK360.out, cz10 BK360.out⟩ (fun hHeld => ?_)
     clear hK K
     refine norm_ (a' := ?_) ?_ ?_
     rotate_left
     ·show Act.put _ (some 29) _ = _
      exact pA
     refine pure_ (i := 16) (N := some 13) (v := ?_) (a' := ?_) #[true, true, true, true, true, true, true, true, true, true, true, true, true, true, true, true, true, false, false, false, false] rfl rfl (any_of HT_.out (by kernel_rfl)) (fun _ _ _ h => h) (Or.inl ⟨by kernel_rfl, ?_⟩) ?_ ?_
     rotate_left
     ·intro w'
      go_simp
      with_reducible rfl
     rotate_left
     ·exact pA
     refine pure_ (i := 17) (N := some 30) (v := ?_) (a' := ?_) #[true, true, true, true, true, true, true, true, true, true, true, true, true, true, true, true, true, true, false, false, false] rfl rfl (any_of HT_.out (by kernel_rfl)) (fun _ _ _ h => h) (Or.inl ⟨by kernel_rfl, ?_⟩) ?_ ?_
     rotate_left
     ·intro w'
      go_simp
      with_reducible rfl
     rotate_left
     ·exact pA
     refine pure_ (i := 18) (N := some 31) (v := ?_) (a' := ?_) #[true, true, true, true, true, true, true, true, true, true, true, true, true, true, true, true, true, true, true, false, false] rfl rfl (any_of HT_.out (by kernel_rfl)) (fun _ _ _ h => h) (Or.inl ⟨by kernel_rfl, ?_⟩) ?_ ?_
     rotate_left
     ·intro w'
      go_simp
      with_reducible rfl
     rotate_left
     ·exact pA
     refine pure_ (i := 19) (N := some 4) (v := ?_) (a' := ?_) #[true, true, true, true, true, true, true, true, true, true, true, true, true, true, true, true, true, true, true, true, false] rfl rfl (any_of HT_.out (by kernel_rfl)) (fun _ _ _ h => h) (Or.inl ⟨by kernel_rfl, ?_⟩) ?_ ?_
     rotate_left
     ·intro w'
      go_simp
      with_reducible rfl
     rotate_left
     ·exact pA
     refine pure_ (i := 20) (N := some 5) (v := ?_) (a' := ?_) #[true, true, true, true, true, true, true, true, true, true, true, true, true, true, true, true, true, true, true, true, true] rfl rfl (any_of HT_.out (by kernel_rfl)) (fun _ _ _ h => h) (Or.inl ⟨by kernel_rfl, ?_⟩) ?_ ?_
     rotate_left
     ·intro w'
      go_simp
      with_reducible rfl
     rotate_left
     ·exact pA
     refine done_ (done_of HT_.out (by kernel_rfl)) ?_
     obtain ⟨Ao29, co29, eo29⟩ := Kd.R_slice HO391.out
     subst eo29
     try go_wp2
     go_ret2
     exact ⟨_, pE, pZ, pB⟩
    ·rw [if_neg c13] at H
     have c13b0 : decide (1048320 < (t389.length : Int)) = false := decide_eq_false c13
     have c13b1 : decide (1048320 < t389.length) = false := decide_eq_false (by omega)
     clear c13
     replace H := Option.bind_eq_some_iff.mp H
     obtain ⟨t393, A300, H⟩ := H
     replace H : (some (t393, 0)) = some (r1, r2) := H
     have A30 := Aside0.mk A300
     clear A300
     simp only [Option.some.injEq, Prod.mk.injEq] at H
     obtain ⟨rfl, rfl⟩ := H
     go_enter Tryd.func11, Tryd.ntmps11
     try go_wp2_with (first | ((with_reducible refine gate_dst (N := 1) rfl ?_); refine box_event ?hg (N := 1) ?hd (cs := #[.int .u64 a0_0, .int .u64 a0_1, .slice A0_2 l0_2.length c0_2, .int .i64 a0_3, .int .u64 a0_4, .string a0_5, .slice A0_6 l0_6.length c0_6, .int .i64 a0_7, .int .u64 a0_8, .string a0_9, .slice A0_10 l0_10.length c0_10]) (t := 28) ?hr ?_; (case hd => rfl); (case hg => rfl); (case hr => first | (go_simp; done) | (go_simp; rfl)); intro gb360 hg w31 hbox hb; have n0_ := Aside0.mk (Kd.V_below (Kd.V_elderB (pV HO0_6.out) gb360 (Nat.le_of_eq hg.symm)) hb); have n1_ := Aside0.mk (Kd.V_below (Kd.V_elderB (pV HO0_10.out) gb360 (Nat.le_of_eq hg.symm)) hb); have n2_ := Aside0.mk (below_step pB hb); have n3_ := Aside0.mk (hbox); have n4_ := Aside0.mk ((by rw [hg]; exact (below_size pB) : w.heap.size ≤ gb360)); have n5_ := Aside0.mk ((by rw [hg]; exact (below_size pB) : w.heap.size ≤ gb360)); clear HO0_6; clear HO0_10; clear HB; have HO0_6 := n0_; have HO0_10 := n1_; have HB := n2_; have BK360 := n3_; have GW360 := n4_; have GE360 := n5_; clear n0_ n1_ n2_ n3_ n4_ n5_; clear hb hbox hg; obtain ⟨hcz32_0, hcz32_1, hcz32_2, hcz32_3, hcz32_4, hcz32_5, hcz32_6, hcz32_7, hcz32_8, hcz32_9, hcz32_10, hfz32_0, hfz32_1, hfz32_2, hfz32_3, hfz32_4, hfz32_5, hfz32_6, hfz32_7, hfz32_8, hfz32_9, hfz32_10⟩ := cf11 BK360.out) | ((with_reducible refine gate_callee (f := 13) rfl ?_); refine goesL_ (some 8) rfl rfl Tryd.func13 (by kernel_rfl) rfl #[.slice A0_2 l0_2.length c0_2] rfl pM ?_; (with_reducible refine (minstrelref19_Members.calls k _ _ l0_2 true _ ?side1 ?side2 A2.out).mono ?_); (case side1 => exact pC (Kd.C_below HR0_2.out HB.out)); (case side2 => exact HC0_2.out); rintro e w' ⟨rfl, ⟨nd, rfl⟩⟩; refine ⟨_, rfl, ?_⟩))
     (try (rw [drewN_self w31]; generalize hq_ : World.drewN w31 _ = w31; have n0_ : Aside0 (Kd.V k26 26 w31 w.heap.size (fun k_ => ((P0_6_ k_ ∨ P0_10_ k_) ∨ w.heap.size ≤ k_) ∧ k_ ≠ gb360) (.slice A0_10 l0_10.length c0_10) l0_10) := ⟨by rw [← hq_]; exact (pV HO0_10.out)⟩; have n1_ : Aside0 (Kd.V k26 26 w31 w.heap.size (fun k_ => ((P0_6_ k_ ∨ P0_10_ k_) ∨ w.heap.size ≤ k_) ∧ k_ ≠ gb360) (.slice A0_6 l0_6.length c0_6) l0_6) := ⟨by rw [← hq_]; exact (pV HO0_6.out)⟩; have n2_ : Aside0 (w31.heap[gb360]? = some (.cells #[.int .u64 a0_0, .int .u64 a0_1, .slice A0_2 l0_2.length c0_2, .int .i64 a0_3, .int .u64 a0_4, .string a0_5, .slice A0_6 l0_6.length c0_6, .int .i64 a0_7, .int .u64 a0_8, .string a0_9, .slice A0_10 l0_10.length c0_10] 28 (0, 0))) := ⟨by rw [← hq_]; exact (pK BK360.out)⟩; have n3_ : Aside0 (Below w.heap.size w w31) := ⟨by rw [← hq_]; exact pB⟩; clear HO0_10 HO0_6 BK360 HB hq_; have HO0_10 := n0_; have HO0_6 := n1_; have BK360 := n2_; have HB := n3_; clear n0_ n1_ n2_ n3_))
     have n0_ := Aside0.mk (Kd.V_drew HO0_6.out)
     have n1_ := Aside0.mk (Kd.V_drew HO0_10.out)
     have n2_ := Aside0.mk (blk_drew BK360.out)
     have n3_ := Aside0.mk (below_drew1 HB.out)
     clear HO0_6 HO0_10 BK360 HB; have HO0_6 := n0_; have HO0_10 := n1_; have BK360 := n2_; have HB := n3_; clear n0_ n1_ n2_ n3_
     refine start_ (n := 21) (S := fun w' => w'.cell? ⟨gb360, 0, none⟩ = some (.int .u64 a0_0) ∧ w'.cell? ⟨gb360, 1, none⟩ = some (.int .u64 a0_1) ∧ w'.cell? ⟨gb360, 2, none⟩ = some (.slice A0_2 l0_2.length c0_2) ∧ w'.cell? ⟨gb360, 3, none⟩ = some (.int .i64 a0_3) ∧ w'.cell? ⟨gb360, 4, none⟩ = some (.int .u64 a0_4) ∧ w'.cell? ⟨gb360, 5, none⟩ = some (.string a0_5) ∧ w'.cell? ⟨gb360, 6, none⟩ = some (.slice A0_6 l0_6.length c0_6) ∧ w'.cell? ⟨gb360, 7, none⟩ = some (.int .i64 a0_7) ∧ w'.cell? ⟨gb360, 8, none⟩ = some (.int .u64 a0_8) ∧ w'.cell? ⟨gb360, 9, none⟩ = some (.string a0_9) ∧ w'.cell? ⟨gb360, 10, none⟩ = some (.slice A0_10 l0_10.length c0_10)) (ds := []) #[false, false, false, false, false, false, false, false, false, false, false, false, false, false, false, false, false, false, false, false, false] (by kernel_rfl) rfl rfl ⟨cz0 BK360.out, cz1 BK360.out, cz2 BK360.out, cz3 BK360.out, cz4 BK360.out, cz5 BK360.out, cz6 BK360.out, cz7 BK360.out, cz8 BK360.out, cz9 BK360.out, cz10 BK360.out⟩ (fun hHeld => ?_); refine with_tabW minstrelref19_Save.tab5 minstrelref19_Save.bits5 (fun HT_ HW_ => ?_)
     generalize w31.drew = w33 at HO0_6 HO0_10 BK360 HB hHeld ⊢
     refine pure_ (i := 0) (N := some 14) (v := ?_) (a' := ?_) #[true, false, false, false, false, false, false, false, false, false, false, false, false, false, false, false, false, false, false, false, false] rfl rfl (any_of HT_.out (by kernel_rfl)) (fun _ _ _ h => h) (Or.inl ⟨by kernel_rfl, ?_⟩) ?_ ?_
     rotate_left
     ·intro w'
      go_simp
      with_reducible rfl
     rotate_left
     ·exact pA
     refine pure_ (i := 3) (N := some 17) (v := ?_) (a' := ?_) #[true, false, false, true, false, false, false, false, false, false, false, false, false, false, false, false, false, false, false, false, false] rfl rfl (any_of HT_.out (by kernel_rfl)) (fun _ _ _ h => h) (Or.inl ⟨by kernel_rfl, ?_⟩) ?_ ?_
     rotate_left
     ·intro w'
      go_simp
      with_reducible rfl
     rotate_left
     ·exact pA
     refine pure_ (i := 6) (N := some 20) (v := ?_) (a' := ?_) #[true, false, false, true, false, false, true, false, false, false, false, false, false, false, false, false, false, false, false, false, false] rfl rfl (any_of HT_.out (by kernel_rfl)) (fun _ _ _ h => h) (Or.inl ⟨by kernel_rfl, ?_⟩) ?_ ?_
     rotate_left
     ·intro w'
      go_simp
      with_reducible rfl
     rotate_left
     ·exact pA
     refine pure_ (i := 9) (N := some 23) (v := ?_) (a' := ?_) #[true, false, false, true, false, false, true, false, false, true, false, false, false, false, false, false, false, false, false, false, false] rfl rfl (any_of HT_.out (by kernel_rfl)) (fun _ _ _ h => h) (Or.inl ⟨by kernel_rfl, ?_⟩) ?_ ?_
     rotate_left
     ·intro w'
      go_simp
      with_reducible rfl
     rotate_left
     ·exact pA
     refine pure_ (i := 11) (N := some 25) (v := ?_) (a' := ?_) #[true, false, false, true, false, false, true, false, false, true, false, true, false, false, false, false, false, false, false, false, false] rfl rfl (any_of HT_.out (by kernel_rfl)) (fun _ _ _ h => h) (Or.inl ⟨by kernel_rfl, ?_⟩) ?_ ?_
     rotate_left
     ·intro w'
      go_simp
      with_reducible rfl
     rotate_left
     ·exact pA
     refine take_ (i := 1) (N := some 15) (v := ?_) (a' := ?_) #[true, true, false, true, false, false, true, false, false, true, false, true, false, false, false, false, false, false, false, false, false] rfl rfl (take_ofW HT_.out HW_.out (by kernel_rfl)) (fun _ _ _ h => h) (Or.inl ⟨by kernel_rfl, ?_⟩) hHeld ?_ ?_
     rotate_left
     ·rintro w' ⟨s0, s1, s2, s3, s4, s5, s6, s7, s8, s9, s10⟩
      go_simp
      with_reducible rfl
     rotate_left
     ·exact pA
     refine take_ (i := 4) (N := some 18) (v := ?_) (a' := ?_) #[true, true, false, true, true, false, true, false, false, true, false, true, false, false, false, false, false, false, false, false, false] rfl rfl (take_ofW HT_.out HW_.out (by kernel_rfl)) (fun _ _ _ h => h) (Or.inl ⟨by kernel_rfl, ?_⟩) hHeld ?_ ?_
     rotate_left
     ·rintro w' ⟨s0, s1, s2, s3, s4, s5, s6, s7, s8, s9, s10⟩
      go_simp
      with_reducible rfl
     rotate_left
     ·exact pA
     refine take_ (i := 7) (N := some 21) (v := ?_) (a' := ?_) #[true, true, false, true, true, false, true, true, false, true, false, true, false, false, false, false, false, false, false, false, false] rfl rfl (take_ofW HT_.out HW_.out (by kernel_rfl)) (fun _ _ _ h => h) (Or.inl ⟨by kernel_rfl, ?_⟩) hHeld ?_ ?_
     rotate_left
     ·rintro w' ⟨s0, s1, s2, s3, s4, s5, s6, s7, s8, s9, s10⟩
      go_simp
      with_reducible rfl
     rotate_left
     ·exact pA
     refine take_ (i := 10) (N := some 24) (v := ?_) (a' := ?_) #[true, true, false, true, true, false, true, true, false, true, true, true, false, false, false, false, false, false, false, false, false] rfl rfl (take_ofW HT_.out HW_.out (by kernel_rfl)) (fun _ _ _ h => h) (Or.inl ⟨by kernel_rfl, ?_⟩) hHeld ?_ ?_
     rotate_left
     ·rintro w' ⟨s0, s1, s2, s3, s4, s5, s6, s7, s8, s9, s10⟩
      go_simp
      with_reducible rfl
     rotate_left
     ·exact pA
     refine take_ (i := 12) (N := some 26) (v := ?_) (a' := ?_) #[true, true, false, true, true, false, true, true, false, true, true, true, true, false, false, false, false, false, false, false, false] rfl rfl (take_ofW HT_.out HW_.out (by kernel_rfl)) (fun _ _ _ h => h) (Or.inl ⟨by kernel_rfl, ?_⟩) hHeld ?_ ?_
     rotate_left
     ·rintro w' ⟨s0, s1, s2, s3, s4, s5, s6, s7, s8, s9, s10⟩
      go_simp
      with_reducible rfl
     rotate_left
     ·exact pA
     refine one_ (i := 2) (N := some 16) #[true, true, true, true, true, false, true, true, false, true, true, true, true, false, false, false, false, false, false, false, false] rfl rfl (one_of HT_.out (by kernel_rfl)) (by decide) (fun K hK => ?_)
     refine goes_ Tryd.func33 (by kernel_rfl) rfl #[.int .u64 a0_0] (by rfl) rfl rfl pM ?_
     with_reducible refine (minstrelref07_Number.calls a0_0 t362 t363 t364 t365 _ A7.out).mono ?_
     rintro e w34 ⟨v366, rfl, ho0, hb⟩
     refine ⟨_, rfl, ?_⟩
     have n0_ := Aside0.mk (Kd.V_elder' (pV HO0_6.out) (by first | exact Kd.R_base ho0 | exact Kd.N_base ho0) hb)
     have n1_ := Aside0.mk (Kd.V_elder' (pV HO0_10.out) (by first | exact Kd.R_base ho0 | exact Kd.N_base ho0) hb)
     have n2_ := Aside0.mk (Kd.N_lower (Kd.N_mono (ok' := fun k_ => ((P0_6_ k_ ∨ P0_10_ k_) ∨ w.heap.size ≤ k_) ∧ k_ ≠ gb360) (Kd.R_N (Kd.R_bound ho0)) (fun k_ hk_ => ⟨(.inr (Nat.le_trans (below_size pB) hk_.2.1)), (Kd.freshB (g := gb360) (o := .cells #[.int .u64 a0_0, .int .u64 a0_1, .slice A0_2 l0_2.length c0_2, .int .i64 a0_3, .int .u64 a0_4, .string a0_5, .slice A0_6 l0_6.length c0_6, .int .i64 a0_7, .int .u64 a0_8, .string a0_9, .slice A0_10 l0_10.length c0_10] 28 (0, 0)) (pK BK360.out) k_ hk_.2.1)⟩)) (below_size pB))
     have n3_ := Aside0.mk (pkb BK360.out hb)
     have n4_ := Aside0.mk (below_step pB hb)
     clear HO0_6 HO0_10 BK360 HB; have HO0_6 := n0_; have HO0_10 := n1_; have HO367 := n2_; have BK360 := n3_; have HB := n4_; clear n0_ n1_ n2_ n3_ n4_; (try clear hb); (try clear hb2); (try clear hk); (try clear hi); (try clear ho0)
     refine hK.out _ _ ⟨cz0 BK360.out, cz1 BK360.out, cz2 BK360.out, cz3 BK360.out, cz4 BK360.out, cz5 BK360.out, cz6 BK360.out, cz7 BK360.out, cz8 BK360.out, cz9 BK360.out, cz10 BK360.out⟩ (fun hHeld => ?_)
     clear hK K
     refine norm_ (a' := ?_) ?_ ?_
     rotate_left
     ·show Act.put _ (some 16) _ = _
      exact pA
     refine one_ (i := 5) (N := some 19) #[true, true, true, true, true, true, true, true, false, true, true, true, true, false, false, false, false, false, false, false, false] rfl rfl (one_of HT_.out (by kernel_rfl)) (by decide) (fun K hK => ?_)
     refine goes_ Tryd.func33 (by kernel_rfl) rfl #[.int .u64 a0_1] (by rfl) rfl rfl pM ?_
     with_reducible refine (minstrelref07_Number.calls a0_1 t368 t369 t370 t371 _ A8.out).mono ?_
     rintro e w35 ⟨v372, rfl, ho0, hb⟩
     refine ⟨_, rfl, ?_⟩
     have n0_ := Aside0.mk (Kd.V_elder' (pV HO0_6.out) (by first | exact Kd.R_base ho0 | exact Kd.N_base ho0) hb)
     have n1_ := Aside0.mk (Kd.V_elder' (pV HO0_10.out) (by first | exact Kd.R_base ho0 | exact Kd.N_base ho0) hb)
     have n2_ := Aside0.mk (Kd.N_elder' (pN HO367.out) (by first | exact Kd.R_base ho0 | exact Kd.N_base ho0) hb)
     have n3_ := Aside0.mk (Kd.N_lower (Kd.N_mono (ok' := fun k_ => ((P0_6_ k_ ∨ P0_10_ k_) ∨ w.heap.size ≤ k_) ∧ some k_ ≠ (v366 : Value).ownBlock ∧ k_ ≠ gb360) (Kd.R_N (Kd.R_bound ho0)) (fun k_ hk_ => ⟨(.inr (Nat.le_trans (below_size pB) hk_.2.1)), (Kd.fresh' (Kd.N_lt (pN HO367.out)) k_ hk_.2.1), (Kd.freshB (g := gb360) (o := .cells #[.int .u64 a0_0, .int .u64 a0_1, .slice A0_2 l0_2.length c0_2, .int .i64 a0_3, .int .u64 a0_4, .string a0_5, .slice A0_6 l0_6.length c0_6, .int .i64 a0_7, .int .u64 a0_8, .string a0_9, .slice A0_10 l0_10.length c0_10] 28 (0, 0)) (pK BK360.out) k_ hk_.2.1)⟩)) (below_size pB))
     have n4_ := Aside0.mk (pkb BK360.out hb)
     have n5_ := Aside0.mk (below_step pB hb)
     clear HO0_6 HO0_10 HO367 BK360 HB; have HO0_6 := n0_; have HO0_10 := n1_; have HO367 := n2_; have HO373 := n3_; have BK360 := n4_; have HB := n5_; clear n0_ n1_ n2_ n3_ n4_ n5_; (try clear hb); (try clear hb2); (try clear hk); (try clear hi); (try clear ho0)
     refine hK.out _ _ ⟨cz0 BK360.out, cz1 BK360.out, cz2 BK360.out, cz3 BK360.out, cz4 BK360.out, cz5 BK360.out, cz6 BK360.out, cz7 BK360.out, cz8 BK360.out, cz9 BK360.out, cz10 BK360.out⟩ (fun hHeld => ?_)
     clear hK K
     refine norm_ (a' := ?_) ?_ ?_
     rotate_left
     ·show Act.put _ (some 19) _ = _
      exact pA
     refine one_ (i := 8) (N := some 22) #[true, true, true, true, true, true, true, true, true, true, true, true, true, false, false, false, false, false, false, false, false] rfl rfl (one_of HT_.out (by kernel_rfl)) (by decide) (fun K hK => ?_)
     refine goes_ Tryd.func34 (by kernel_rfl) rfl #[.slice A0_2 l0_2.length c0_2] (by rfl) rfl rfl pM ?_
     with_reducible refine (minstrelref19_members.calls k _ _ l0_2 t374 t375 t376 t377 _ ?side1 ?side2 A9.out).mono ?_
     (case side1 => exact pC (Kd.C_below HR0_2.out HB.out))
     (case side2 => exact HC0_2.out)
     rintro e w36 ⟨v378, rfl, ho0, hb⟩
     refine ⟨_, rfl, ?_⟩
     have n0_ := Aside0.mk (Kd.V_below (pV HO0_6.out) hb)
     have n1_ := Aside0.mk (Kd.V_below (pV HO0_10.out) hb)
     have n2_ := Aside0.mk (Kd.N_below (pN HO367.out) hb)
     have n3_ := Aside0.mk (Kd.N_below (pN HO373.out) hb)
     have n4_ := Aside0.mk (Kd.V_lower (Kd.V_mono (ok' := fun k_ => ((P0_6_ k_ ∨ P0_10_ k_) ∨ w.heap.size ≤ k_) ∧ some k_ ≠ (v366 : Value).ownBlock ∧ some k_ ≠ (v372 : Value).ownBlock ∧ k_ ≠ gb360) ho0 (fun k_ hk_ => ⟨(.inr (Nat.le_trans (below_size pB) hk_)), (Kd.fresh' (Kd.N_lt (pN HO367.out)) k_ hk_), (Kd.fresh' (Kd.N_lt (pN HO373.out)) k_ hk_), (Kd.freshB (g := gb360) (o := .cells #[.int .u64 a0_0, .int .u64 a0_1, .slice A0_2 l0_2.length c0_2, .int .i64 a0_3, .int .u64 a0_4, .string a0_5, .slice A0_6 l0_6.length c0_6, .int .i64 a0_7, .int .u64 a0_8, .string a0_9, .slice A0_10 l0_10.length c0_10] 28 (0, 0)) (pK BK360.out) k_ hk_)⟩)) (below_size pB))
     have n5_ := Aside0.mk (pkb BK360.out hb)
     have n6_ := Aside0.mk (below_step pB hb)
     clear HO0_6 HO0_10 HO367 HO373 BK360 HB; have HO0_6 := n0_; have HO0_10 := n1_; have HO367 := n2_; have HO373 := n3_; have HO379 := n4_; have BK360 := n5_; have HB := n6_; clear n0_ n1_ n2_ n3_ n4_ n5_ n6_; (try clear hb); (try clear hb2); (try clear hk); (try clear hi); (try clear ho0)
     obtain ⟨Ao37, co37, eo37⟩ := Kd.N_slice HO367.out
     (first | subst eo37 | (injection eo37 with f1_ f2_ f3_; have f4_ := f1_.symm; have f5_ := f3_.symm; clear f1_ f2_ f3_; subst f4_; subst f5_))
     obtain ⟨Ao38, co38, eo38⟩ := Kd.N_slice HO373.out
     (first | subst eo38 | (injection eo38 with f1_ f2_ f3_; have f4_ := f1_.symm; have f5_ := f3_.symm; clear f1_ f2_ f3_; subst f4_; subst f5_))
     obtain ⟨Ao39, co39, eo39⟩ := Kd.V_slice HO379.out
     (first | subst eo39 | (injection eo39 with f1_ f2_ f3_; have f4_ := f1_.symm; have f5_ := f3_.symm; clear f1_ f2_ f3_; subst f4_; subst f5_))
     refine hK.out _ _ ⟨cz0 BK360.out, cz1 BK360.out, cz2 BK360.out, cz3 BK360.out, cz4 BK360.out, cz5 BK360.out, cz6 BK360.out, cz7 BK360.out, cz8 BK360.out, cz9 BK360.out, cz10 BK360.out⟩ (fun hHeld => ?_)
     clear hK K
     refine norm_ (a' := ?_) ?_ ?_
     rotate_left
     ·show Act.put _ (some 22) _ = _
      exact pA
     refine one_ (i := 13) (N := some 27) #[true, true, true, true, true, true, true, true, true, true, true, true, true, true, false, false, false, false, false, false, false] rfl rfl (one_of HT_.out (by kernel_rfl)) (by decide) (fun K hK => ?_)
     refine Kd.N_lit_step k26 _ 26 ?hg (N' := 27) ?hd (xs := ([(⟨t362, t363, t364, t365⟩ : S26), (⟨t368, t369, t370, t371⟩ : S26), (⟨t374, t375, t376, t377⟩ : S26), (⟨a0_3, a0_4, a0_5, l0_6⟩ : S26), (⟨a0_7, a0_8, a0_9, l0_10⟩ : S26)] : List (S26))) (inner := [.int .i64 t362, .int .u64 t363, .string t364, .slice Ao37 t365.length co37, .int .i64 t368, .int .u64 t369, .string t370, .slice Ao38 t371.length co38, .int .i64 t374, .int .u64 t375, .string t376, .slice Ao39 t377.length co39, .int .i64 a0_3, .int .u64 a0_4, .string a0_5, .slice A0_6 l0_6.length c0_6, .int .i64 a0_7, .int .u64 a0_8, .string a0_9, .slice A0_10 l0_10.length c0_10]) (ok := (fun k_ => ((P0_6_ k_ ∨ P0_10_ k_) ∨ w.heap.size ≤ k_) ∧ k_ ≠ gb360)) (okp := (fun k_ => ((P0_6_ k_ ∨ P0_10_ k_) ∨ w.heap.size ≤ k_) ∧ k_ ≠ gb360)) ?hr ?hp (fun _ hk => hk) ((show ∀ k_, w36.heap.size ≤ k_ → (fun k_ => ((P0_6_ k_ ∨ P0_10_ k_) ∨ w.heap.size ≤ k_) ∧ k_ ≠ gb360) k_ from fun k_ hk => ⟨(.inr (Nat.le_trans (below_size pB) hk)), Kd.freshB (g := gb360) (o := .cells #[.int .u64 a0_0, .int .u64 a0_1, .slice A0_2 l0_2.length c0_2, .int .i64 a0_3, .int .u64 a0_4, .string a0_5, .slice A0_6 l0_6.length c0_6, .int .i64 a0_7, .int .u64 a0_8, .string a0_9, .slice A0_10 l0_10.length c0_10] 28 (0, 0)) (pK BK360.out) k_ hk⟩) _ (Nat.le_refl _)) (Below.refl _ _) (Nat.le_refl _) (by simp) ?_; (case hd => rfl); (case hg => rfl); (case hr => first | (go_simp; done) | (go_simp; rfl)); (case hp => exact (Reps.c4 (show Kd.FK k26 _ _ (⟨t362, t363, t364, t365⟩ : S26) [.int .i64 t362, .int .u64 t363, .string t364, .slice Ao37 t365.length co37] from (k26_mkF _ _ (⟨t362, t363, t364, t365⟩ : S26) (Kd.N_reads' (Kd.N_mono (ok' := (fun k_ => ((P0_6_ k_ ∨ P0_10_ k_) ∨ w.heap.size ≤ k_) ∧ k_ ≠ gb360)) (HO367.out) (fun k_ hk => ⟨hk.1.1, hk.1.2⟩))).2.1 (Kd.N_F (Kd.N_mono (ok' := (fun k_ => ((P0_6_ k_ ∨ P0_10_ k_) ∨ w.heap.size ≤ k_) ∧ k_ ≠ gb360)) (HO367.out) (fun k_ hk => ⟨hk.1.1, hk.1.2⟩))))) (Reps.c4 (show Kd.FK k26 _ _ (⟨t368, t369, t370, t371⟩ : S26) [.int .i64 t368, .int .u64 t369, .string t370, .slice Ao38 t371.length co38] from (k26_mkF _ _ (⟨t368, t369, t370, t371⟩ : S26) (Kd.N_reads' (Kd.N_mono (ok' := (fun k_ => ((P0_6_ k_ ∨ P0_10_ k_) ∨ w.heap.size ≤ k_) ∧ k_ ≠ gb360)) (HO373.out) (fun k_ hk => ⟨hk.1, hk.2.2⟩))).2.1 (Kd.N_F (Kd.N_mono (ok' := (fun k_ => ((P0_6_ k_ ∨ P0_10_ k_) ∨ w.heap.size ≤ k_) ∧ k_ ≠ gb360)) (HO373.out) (fun k_ hk => ⟨hk.1, hk.2.2⟩))))) (Reps.c4 (show Kd.FK k26 _ _ (⟨t374, t375, t376, t377⟩ : S26) [.int .i64 t374, .int .u64 t375, .string t376, .slice Ao39 t377.length co39] from (k26_mkF _ _ (⟨t374, t375, t376, t377⟩ : S26) (Kd.V_reads' (Kd.V_mono (ok' := (fun k_ => ((P0_6_ k_ ∨ P0_10_ k_) ∨ w.heap.size ≤ k_) ∧ k_ ≠ gb360)) (HO379.out) (fun k_ hk => ⟨hk.1, hk.2.2.2⟩))).2.1 (Kd.V_F (Kd.V_mono (ok' := (fun k_ => ((P0_6_ k_ ∨ P0_10_ k_) ∨ w.heap.size ≤ k_) ∧ k_ ≠ gb360)) (HO379.out) (fun k_ hk => ⟨hk.1, hk.2.2.2⟩))))) (Reps.c4 (show Kd.FK k26 _ _ (⟨a0_3, a0_4, a0_5, l0_6⟩ : S26) [.int .i64 a0_3, .int .u64 a0_4, .string a0_5, .slice A0_6 l0_6.length c0_6] from (k26_mkF _ _ (⟨a0_3, a0_4, a0_5, l0_6⟩ : S26) (Kd.V_reads' (Kd.V_mono (ok' := (fun k_ => ((P0_6_ k_ ∨ P0_10_ k_) ∨ w.heap.size ≤ k_) ∧ k_ ≠ gb360)) (HO0_6.out) (fun k_ hk => ⟨hk.1.1.1, hk.1.1.2⟩))).2.1 (Kd.V_F (Kd.V_mono (ok' := (fun k_ => ((P0_6_ k_ ∨ P0_10_ k_) ∨ w.heap.size ≤ k_) ∧ k_ ≠ gb360)) (HO0_6.out) (fun k_ hk => ⟨hk.1.1.1, hk.1.1.2⟩))))) (Reps.c4 (show Kd.FK k26 _ _ (⟨a0_7, a0_8, a0_9, l0_10⟩ : S26) [.int .i64 a0_7, .int .u64 a0_8, .string a0_9, .slice A0_10 l0_10.length c0_10] from (k26_mkF _ _ (⟨a0_7, a0_8, a0_9, l0_10⟩ : S26) (Kd.V_reads' (Kd.V_mono (ok' := (fun k_ => ((P0_6_ k_ ∨ P0_10_ k_) ∨ w.heap.size ≤ k_) ∧ k_ ≠ gb360)) (HO0_10.out) (fun k_ hk => ⟨hk.1.1.1, hk.1.1.2⟩))).2.1 (Kd.V_F (Kd.V_mono (ok' := (fun k_ => ((P0_6_ k_ ∨ P0_10_ k_) ∨ w.heap.size ≤ k_) ∧ k_ ≠ gb360)) (HO0_10.out) (fun k_ hk => ⟨hk.1.1.1, hk.1.1.2⟩))))) (Reps.none _ _)))))))
     intro v381 w40 ho41 hb hg_ hnew_
     clear hg_ hnew_
     (first | rw [← Ny380.out] at ho41 | (simp only [Int.reduceToNat] at ho41; rw [← Ny380.out] at ho41))
     have n0_ := Aside0.mk (Kd.V_elder' (pV HO0_6.out) (by first | exact Kd.R_base ho41 | exact Kd.N_base ho41) hb)
     have n1_ := Aside0.mk (Kd.V_elder' (pV HO0_10.out) (by first | exact Kd.R_base ho41 | exact Kd.N_base ho41) hb)
     have n2_ := Aside0.mk (Kd.V_elder' (pV HO379.out) (by first | exact Kd.R_base ho41 | exact Kd.N_base ho41) hb)
     have n3_ := Aside0.mk (Kd.N_lower ho41 (below_size pB))
     have n4_ := Aside0.mk (pkb BK360.out hb)
     have n5_ := Aside0.mk (below_step pB hb)
     clear HO0_6 HO0_10 HO379 BK360 HB HO367 HO373; have HO0_6 := n0_; have HO0_10 := n1_; have HO379 := n2_; have HO382 := n3_; have BK360 := n4_; have HB := n5_; clear n0_ n1_ n2_ n3_ n4_ n5_ hb ho41
     obtain ⟨Ao42, co42, eo42⟩ := Kd.N_slice HO382.out
     (first | subst eo42 | (injection eo42 with f1_ f2_ f3_; have f4_ := f1_.symm; have f5_ := f3_.symm; clear f1_ f2_ f3_; subst f4_; subst f5_))
     refine hK.out _ _ ⟨cz0 BK360.out, cz1 BK360.out, cz2 BK360.out, cz3 BK360.out, cz4 BK360.out, cz5 BK360.out, cz6 BK360.out, cz7 BK360.out, cz8 BK360.out, cz9 BK360.out, cz10 BK360.out⟩ (fun hHeld => ?_)
     clear hK K
     refine norm_ (a' := ?_) ?_ ?_
     rotate_left
     ·show Act.put _ (some 27) _ = _
      exact pA
     refine one_ (i := 14) (N := some 28) #[true, true, true, true, true, true, true, true, true, true, true, true, true, true, true, false, false, false, false, false, false] rfl rfl (one_of HT_.out (by kernel_rfl)) (by decide) (fun K hK => ?_)
     refine goes_ Tryd.func32 (by kernel_rfl) rfl #[.slice Ao42 y380.length co42] (by rfl) rfl rfl pM ?_
     with_reducible refine (minstrelref07_List.calls (fun k_ => (((P0_6_ k_ ∨ P0_10_ k_) ∨ w.heap.size ≤ k_) ∧ k_ ≠ gb360)) _ _ y380 t383 t384 t385 t386 _ ?side1 A10.out).mono ?_
     (case side1 => exact Kd.N_V (HO382.out))
     rintro e w43 ⟨v387, rfl, ho0, hb⟩
     refine ⟨_, rfl, ?_⟩
     have n0_ := Aside0.mk (Kd.V_below (pV HO0_6.out) hb)
     have n1_ := Aside0.mk (Kd.V_below (pV HO0_10.out) hb)
     have n2_ := Aside0.mk (Kd.V_below (pV HO379.out) hb)
     have n3_ := Aside0.mk (Kd.N_below (pN HO382.out) hb)
     have n4_ := Aside0.mk (Kd.V_lower (Kd.V_mono (ok' := fun k_ => ((P0_6_ k_ ∨ P0_10_ k_) ∨ w.heap.size ≤ k_) ∧ k_ ≠ gb360) ho0 (fun k_ hk_ => ⟨Or.elim hk_ (fun hs_ => hs_.1) (fun hn_ => (.inr (Nat.le_trans (below_size pB) hn_))), Or.elim hk_ (fun hs_ => hs_.2) (fun hn_ => (Kd.freshB (g := gb360) (o := .cells #[.int .u64 a0_0, .int .u64 a0_1, .slice A0_2 l0_2.length c0_2, .int .i64 a0_3, .int .u64 a0_4, .string a0_5, .slice A0_6 l0_6.length c0_6, .int .i64 a0_7, .int .u64 a0_8, .string a0_9, .slice A0_10 l0_10.length c0_10] 28 (0, 0)) (pK BK360.out) k_ hn_))⟩)) (below_size pB))
     have n5_ := Aside0.mk (pkb BK360.out hb)
     have n6_ := Aside0.mk (below_step pB hb)
     clear HO0_6 HO0_10 HO379 HO382 BK360 HB; have HO0_6 := n0_; have HO0_10 := n1_; have HO379 := n2_; have HO382 := n3_; have HO388 := n4_; have BK360 := n5_; have HB := n6_; clear n0_ n1_ n2_ n3_ n4_ n5_ n6_; (try clear hb); (try clear hb2); (try clear hk); (try clear hi); (try clear ho0)
     obtain ⟨Ao44, co44, eo44⟩ := Kd.V_slice HO388.out
     (first | subst eo44 | (injection eo44 with f1_ f2_ f3_; have f4_ := f1_.symm; have f5_ := f3_.symm; clear f1_ f2_ f3_; subst f4_; subst f5_))
     refine hK.out _ _ ⟨cz0 BK360.out, cz1 BK360.out, cz2 BK360.out, cz3 BK360.out, cz4 BK360.out, cz5 BK360.out, cz6 BK360.out, cz7 BK360.out, cz8 BK360.out, cz9 BK360.out, cz10 BK360.out⟩ (fun hHeld => ?_)
     clear hK K
     refine norm_ (a' := ?_) ?_ ?_
     rotate_left
     ·show Act.put _ (some 28) _ = _
      exact pA
     refine one_ (i := 15) (N := some 29) #[true, true, true, true, true, true, true, true, true, true, true, true, true, true, true, true, false, false, false, false, false] rfl rfl (one_of HT_.out (by kernel_rfl)) (by decide) (fun K hK => ?_)
     refine goes_ Tryd.func31 (by kernel_rfl) rfl #[.agg #[.int .i64 t383, .int .u64 t384, .string t385, .slice Ao44 t386.length co44]] (by rfl) rfl rfl pM ?_
     with_reducible refine (minstrelref07_Encode.calls k t383 t384 t385 _ _ t386 t389 t392 _ ?side1 ?side2 A11.out).mono ?_
     (case side1 => repeat (first | exact (Kd.V_reads' HO388.out).2.2 | (with_reducible refine Kd.C_alloc ?_ _) | (with_reducible refine Kd.C_drewN ?_ _) | (with_reducible refine Kd.C_drew ?_)))
     (case side2 => exact (Kd.V_reads' HO388.out).2.1)
     rintro e w45 ⟨v390, rfl, ho0, hb⟩
     refine ⟨_, rfl, ?_⟩
     have n0_ := Aside0.mk (Kd.V_elder' (pV HO0_6.out) (Kd.R_base ho0) hb)
     have n1_ := Aside0.mk (Kd.V_elder' (pV HO0_10.out) (Kd.R_base ho0) hb)
     have n2_ := Aside0.mk (Kd.V_elder' (pV HO379.out) (Kd.R_base ho0) hb)
     have n3_ := Aside0.mk (Kd.N_elder' (pN HO382.out) (Kd.R_base ho0) hb)
     have n4_ := Aside0.mk (Kd.V_elder' (pV HO388.out) (Kd.R_base ho0) hb)
     have n5_ := Aside0.mk (Kd.R_lower (Kd.R_newM (M := fun k_ => (w.heap.size ≤ k_)) ho0 (below_size pB) (fun k_ h_ => h_)) (below_size pB))
     have n6_ := Aside0.mk (pkb BK360.out hb)
     have n7_ := Aside0.mk (below_step pB hb)
     clear HO0_6 HO0_10 HO379 HO382 HO388 BK360 HB; have HO0_6 := n0_; have HO0_10 := n1_; have HO379 := n2_; have HO382 := n3_; have HO388 := n4_; have HO391 := n5_; have BK360 := n6_; have HB := n7_; clear n0_ n1_ n2_ n3_ n4_ n5_ n6_ n7_; (try clear hb); (try clear hb2); (try clear hk); (try clear hi); (try clear ho0)
     refine hK.out _ _ ⟨cz0 BK360.out, cz1 BK360.out, cz2 BK360.out, cz3 BK360.out, cz4 BK360.out, cz5 BK360.out, cz6 BK360.out, cz7 BK360.out, cz8 BK360.out, cz9 BK360.out, cz10 BK360.out⟩ (fun hHeld => ?_)
     clear hK K
     refine norm_ (a' := ?_) ?_ ?_
     rotate_left
     ·show Act.put _ (some 29) _ = _
      exact pA
     refine pure_ (i := 16) (N := some 13) (v := ?_) (a' := ?_) #[true, true, true, true, true, true, true, true, true, true, true, true, true, true, true, true, true, false, false, false, false] rfl rfl (any_of HT_.out (by kernel_rfl)) (fun _ _ _ h => h) (Or.inl ⟨by kernel_rfl, ?_⟩) ?_ ?_
     rotate_left
     ·intro w'
      go_simp
      with_reducible rfl
     rotate_left
     ·exact pA
     refine pure_ (i := 17) (N := some 30) (v := ?_) (a' := ?_) #[true, true, true, true, true, true, true, true, true, true, true, true, true, true, true, true, true, true, false, false, false] rfl rfl (any_of HT_.out (by kernel_rfl)) (fun _ _ _ h => h) (Or.inl ⟨by kernel_rfl, ?_⟩) ?_ ?_
     rotate_left
     ·intro w'
      go_simp
      with_reducible rfl
     rotate_left
     ·exact pA
     refine pure_ (i := 18) (N := some 31) (v := ?_) (a' := ?_) #[true, true, true, true, true, true, true, true, true, true, true, true, true, true, true, true, true, true, true, false, false] rfl rfl (any_of HT_.out (by kernel_rfl)) (fun _ _ _ h => h) (Or.inl ⟨by kernel_rfl, ?_⟩) ?_ ?_
     rotate_left
     ·intro w'
      go_simp
      with_reducible rfl
     rotate_left
     ·exact pA
     refine pure_ (i := 19) (N := some 4) (v := ?_) (a' := ?_) #[true, true, true, true, true, true, true, true, true, true, true, true, true, true, true, true, true, true, true, true, false] rfl rfl (any_of HT_.out (by kernel_rfl)) (fun _ _ _ h => h) (Or.inl ⟨by kernel_rfl, ?_⟩) ?_ ?_
     rotate_left
     ·intro w'
      go_simp
      with_reducible rfl
     rotate_left
     ·exact pA
     refine pure_ (i := 20) (N := some 5) (v := ?_) (a' := ?_) #[true, true, true, true, true, true, true, true, true, true, true, true, true, true, true, true, true, true, true, true, true] rfl rfl (any_of HT_.out (by kernel_rfl)) (fun _ _ _ h => h) (Or.inl ⟨by kernel_rfl, ?_⟩) ?_ ?_
     rotate_left
     ·intro w'
      go_simp
      with_reducible rfl
     rotate_left
     ·exact pA
     refine done_ (done_of HT_.out (by kernel_rfl)) ?_
     obtain ⟨Ao46, co46, eo46⟩ := Kd.R_slice HO391.out
     subst eo46
     try go_wp2_with (first | ((with_reducible refine gate_callee (f := 35) rfl ?_); refine goesL_ (some 39) rfl rfl Tryd.func35 (by kernel_rfl) rfl #[.slice Ao46 t389.length co46] rfl pM ?_; (with_reducible refine (minstrelref06_Frame.calls k _ _ t389 t393 _ ?side1 ?side2 A30.out).mono ?_); (case side1 => repeat (first | exact (Kd.R_reads' HO391.out).2.2 | (with_reducible refine Kd.C_alloc ?_ _) | (with_reducible refine Kd.C_drewN ?_ _) | (with_reducible refine Kd.C_drew ?_))); (case side2 => exact (Kd.R_reads' HO391.out).2.1); rintro e w47 ⟨v394, rfl, ho0, hb⟩; refine ⟨_, rfl, ?_⟩; have n0_ := Aside0.mk (Kd.V_elder' (pV HO0_6.out) (Kd.R_base ho0) hb); have n1_ := Aside0.mk (Kd.V_elder' (pV HO0_10.out) (Kd.R_base ho0) hb); have n2_ := Aside0.mk (Kd.V_elder' (pV HO379.out) (Kd.R_base ho0) hb); have n3_ := Aside0.mk (Kd.N_elder' (pN HO382.out) (Kd.R_base ho0) hb); have n4_ := Aside0.mk (Kd.V_elder' (pV HO388.out) (Kd.R_base ho0) hb); have n5_ := Aside0.mk (Kd.R_elder' (pR HO391.out) (Kd.R_base ho0) hb); have n6_ := Aside0.mk (Kd.R_lower (Kd.R_new' (Kd.R_newM (M := fun k_ => (w.heap.size ≤ k_)) ho0 (below_size pB) (fun k_ h_ => h_)) (Kd.R_lt (pR HO391.out))) (below_size pB)); have n7_ := Aside0.mk (pkb BK360.out hb); have n8_ := Aside0.mk (below_step pB hb); clear HO0_6; clear HO0_10; clear HO379; clear HO382; clear HO388; clear HO391; clear BK360; clear HB; have HO0_6 := n0_; have HO0_10 := n1_; have HO379 := n2_; have HO382 := n3_; have HO388 := n4_; have HO391 := n5_; have HO395 := n6_; have BK360 := n7_; have HB := n8_; clear n0_ n1_ n2_ n3_ n4_ n5_ n6_ n7_ n8_; (try clear hb); (try clear hb2); (try clear hk); (try clear hi); (try clear ho0)))
     go_ret2
     exact ⟨_, pE, by (with_reducible repeat (first | apply Kd.R_alloc | apply Kd.R_drewN | apply Kd.R_drew)); exact Kd.R_mono HO395.out (fun _ hk => hk.1.1), pB⟩
   ·rw [if_neg c12] at H
    have c12b0 : (t392 == 0) = false := beq_eq_false_iff_ne.mpr c12
    have c12b1 : (t392 != 0) = true := bne_iff_ne.mpr c12
    simp only [Option.some.injEq, Prod.mk.injEq] at H
    obtain ⟨rfl, rfl⟩ := H
    go_enter Tryd.func11, Tryd.ntmps11
    try go_wp2_with (first | ((with_reducible refine gate_dst (N := 1) rfl ?_); refine box_event ?hg (N := 1) ?hd (cs := #[.int .u64 a0_0, .int .u64 a0_1, .slice A0_2 l0_2.length c0_2, .int .i64 a0_3, .int .u64 a0_4, .string a0_5, .slice A0_6 l0_6.length c0_6, .int .i64 a0_7, .int .u64 a0_8, .string a0_9, .slice A0_10 l0_10.length c0_10]) (t := 28) ?hr ?_; (case hd => rfl); (case hg => rfl); (case hr => first | (go_simp; done) | (go_simp; rfl)); intro gb360 hg w48 hbox hb; have n0_ := Aside0.mk (Kd.V_below (Kd.V_elderB (pV HO0_6.out) gb360 (Nat.le_of_eq hg.symm)) hb); have n1_ := Aside0.mk (Kd.V_below (Kd.V_elderB (pV HO0_10.out) gb360 (Nat.le_of_eq hg.symm)) hb); have n2_ := Aside0.mk (below_step pB hb); have n3_ := Aside0.mk (hbox); have n4_ := Aside0.mk ((by rw [hg]; exact (below_size pB) : w.heap.size ≤ gb360)); have n5_ := Aside0.mk ((by rw [hg]; exact (below_size pB) : w.heap.size ≤ gb360)); clear HO0_6; clear HO0_10; clear HB; have HO0_6 := n0_; have HO0_10 := n1_; have HB := n2_; have BK360 := n3_; have GW360 := n4_; have GE360 := n5_; clear n0_ n1_ n2_ n3_ n4_ n5_; clear hb hbox hg; obtain ⟨hcz49_0, hcz49_1, hcz49_2, hcz49_3, hcz49_4, hcz49_5, hcz49_6, hcz49_7, hcz49_8, hcz49_9, hcz49_10, hfz49_0, hfz49_1, hfz49_2, hfz49_3, hfz49_4, hfz49_5, hfz49_6, hfz49_7, hfz49_8, hfz49_9, hfz49_10⟩ := cf11 BK360.out) | ((with_reducible refine gate_callee (f := 13) rfl ?_); refine goesL_ (some 8) rfl rfl Tryd.func13 (by kernel_rfl) rfl #[.slice A0_2 l0_2.length c0_2] rfl pM ?_; (with_reducible refine (minstrelref19_Members.calls k _ _ l0_2 true _ ?side1 ?side2 A2.out).mono ?_); (case side1 => exact pC (Kd.C_below HR0_2.out HB.out)); (case side2 => exact HC0_2.out); rintro e w' ⟨rfl, ⟨nd, rfl⟩⟩; refine ⟨_, rfl, ?_⟩))
    (try (rw [drewN_self w48]; generalize hq_ : World.drewN w48 _ = w48; have n0_ : Aside0 (Kd.V k26 26 w48 w.heap.size (fun k_ => ((P0_6_ k_ ∨ P0_10_ k_) ∨ w.heap.size ≤ k_) ∧ k_ ≠ gb360) (.slice A0_10 l0_10.length c0_10) l0_10) := ⟨by rw [← hq_]; exact (pV HO0_10.out)⟩; have n1_ : Aside0 (Kd.V k26 26 w48 w.heap.size (fun k_ => ((P0_6_ k_ ∨ P0_10_ k_) ∨ w.heap.size ≤ k_) ∧ k_ ≠ gb360) (.slice A0_6 l0_6.length c0_6) l0_6) := ⟨by rw [← hq_]; exact (pV HO0_6.out)⟩; have n2_ : Aside0 (w48.heap[gb360]? = some (.cells #[.int .u64 a0_0, .int .u64 a0_1, .slice A0_2 l0_2.length c0_2, .int .i64 a0_3, .int .u64 a0_4, .string a0_5, .slice A0_6 l0_6.length c0_6, .int .i64 a0_7, .int .u64 a0_8, .string a0_9, .slice A0_10 l0_10.length c0_10] 28 (0, 0))) := ⟨by rw [← hq_]; exact (pK BK360.out)⟩; have n3_ : Aside0 (Below w.heap.size w w48) := ⟨by rw [← hq_]; exact pB⟩; clear HO0_10 HO0_6 BK360 HB hq_; have HO0_10 := n0_; have HO0_6 := n1_; have BK360 := n2_; have HB := n3_; clear n0_ n1_ n2_ n3_))
    have n0_ := Aside0.mk (Kd.V_drew HO0_6.out)
    have n1_ := Aside0.mk (Kd.V_drew HO0_10.out)
    have n2_ := Aside0.mk (blk_drew BK360.out)
    have n3_ := Aside0.mk (below_drew1 HB.out)
    clear HO0_6 HO0_10 BK360 HB; have HO0_6 := n0_; have HO0_10 := n1_; have BK360 := n2_; have HB := n3_; clear n0_ n1_ n2_ n3_
    refine start_ (n := 21) (S := fun w' => w'.cell? ⟨gb360, 0, none⟩ = some (.int .u64 a0_0) ∧ w'.cell? ⟨gb360, 1, none⟩ = some (.int .u64 a0_1) ∧ w'.cell? ⟨gb360, 2, none⟩ = some (.slice A0_2 l0_2.length c0_2) ∧ w'.cell? ⟨gb360, 3, none⟩ = some (.int .i64 a0_3) ∧ w'.cell? ⟨gb360, 4, none⟩ = some (.int .u64 a0_4) ∧ w'.cell? ⟨gb360, 5, none⟩ = some (.string a0_5) ∧ w'.cell? ⟨gb360, 6, none⟩ = some (.slice A0_6 l0_6.length c0_6) ∧ w'.cell? ⟨gb360, 7, none⟩ = some (.int .i64 a0_7) ∧ w'.cell? ⟨gb360, 8, none⟩ = some (.int .u64 a0_8) ∧ w'.cell? ⟨gb360, 9, none⟩ = some (.string a0_9) ∧ w'.cell? ⟨gb360, 10, none⟩ = some (.slice A0_10 l0_10.length c0_10)) (ds := []) #[false, false, false, false, false, false, false, false, false, false, false, false, false, false, false, false, false, false, false, false, false] (by kernel_rfl) rfl rfl ⟨cz0 BK360.out, cz1 BK360.out, cz2 BK360.out, cz3 BK360.out, cz4 BK360.out, cz5 BK360.out, cz6 BK360.out, cz7 BK360.out, cz8 BK360.out, cz9 BK360.out, cz10 BK360.out⟩ (fun hHeld => ?_); refine with_tabW minstrelref19_Save.tab5 minstrelref19_Save.bits5 (fun HT_ HW_ => ?_)
    generalize w48.drew = w50 at HO0_6 HO0_10 BK360 HB hHeld ⊢
    refine pure_ (i := 0) (N := some 14) (v := ?_) (a' := ?_) #[true, false, false, false, false, false, false, false, false, false, false, false, false, false, false, false, false, false, false, false, false] rfl rfl (any_of HT_.out (by kernel_rfl)) (fun _ _ _ h => h) (Or.inl ⟨by kernel_rfl, ?_⟩) ?_ ?_
    rotate_left
    ·intro w'
     go_simp
     with_reducible rfl
    rotate_left
    ·exact pA
    refine pure_ (i := 3) (N := some 17) (v := ?_) (a' := ?_) #[true, false, false, true, false, false, false, false, false, false, false, false, false, false, false, false, false, false, false, false, false] rfl rfl (any_of HT_.out (by kernel_rfl)) (fun _ _ _ h => h) (Or.inl ⟨by kernel_rfl, ?_⟩) ?_ ?_
    rotate_left
    ·intro w'
     go_simp
     with_reducible rfl
    rotate_left
    ·exact pA
    refine pure_ (i := 6) (N := some 20) (v := ?_) (a' := ?_) #[true, false, false, true, false, false, true, false, false, false, false, false, false, false, false, false, false, false, false, false, false] rfl rfl (any_of HT_.out (by kernel_rfl)) (fun _ _ _ h => h) (Or.inl ⟨by kernel_rfl, ?_⟩) ?_ ?_
    rotate_left
    ·intro w'
     go_simp
     with_reducible rfl
    rotate_left
    ·exact pA
    refine pure_ (i := 9) (N := some 23) (v := ?_) (a' := ?_) #[true, false, false, true, false, false, true, false, false, true, false, false, false, false, false, false, false, false, false, false, false] rfl rfl (any_of HT_.out (by kernel_rfl)) (fun _ _ _ h => h) (Or.inl ⟨by kernel_rfl, ?_⟩) ?_ ?_
    rotate_left
    ·intro w'
     go_simp
     with_reducible rfl
    rotate_left
    ·exact pA
    refine pure_ (i := 11) (N := some 25) (v := ?_) (a' := ?_) #[true, false, false, true, false, false, true, false, false, true, false, true, false, false, false, false, false, false, false, false, false] rfl rfl (any_of HT_.out (by kernel_rfl)) (fun _ _ _ h => h) (Or.inl ⟨by kernel_rfl, ?_⟩) ?_ ?_
    rotate_left
    ·intro w'
     go_simp
     with_reducible rfl
    rotate_left
    ·exact pA
    refine take_ (i := 1) (N := some 15) (v := ?_) (a' := ?_) #[true, true, false, true, false, false, true, false, false, true, false, true, false, false, false, false, false, false, false, false, false] rfl rfl (take_ofW HT_.out HW_.out (by kernel_rfl)) (fun _ _ _ h => h) (Or.inl ⟨by kernel_rfl, ?_⟩) hHeld ?_ ?_
    rotate_left
    ·rintro w' ⟨s0, s1, s2, s3, s4, s5, s6, s7, s8, s9, s10⟩
     go_simp
     with_reducible rfl
    rotate_left
    ·exact pA
    refine take_ (i := 4) (N := some 18) (v := ?_) (a' := ?_) #[true, true, false, true, true, false, true, false, false, true, false, true, false, false, false, false, false, false, false, false, false] rfl rfl (take_ofW HT_.out HW_.out (by kernel_rfl)) (fun _ _ _ h => h) (Or.inl ⟨by kernel_rfl, ?_⟩) hHeld ?_ ?_
    rotate_left
    ·rintro w' ⟨s0, s1, s2, s3, s4, s5, s6, s7, s8, s9, s10⟩
     go_simp
     with_reducible rfl
    rotate_left
    ·exact pA
    refine take_ (i := 7) (N := some 21) (v := ?_) (a' := ?_) #[true, true, false, true, true, false, true, true, false, true, false, true, false, false, false, false, false, false, false, false, false] rfl rfl (take_ofW HT_.out HW_.out (by kernel_rfl)) (fun _ _ _ h => h) (Or.inl ⟨by kernel_rfl, ?_⟩) hHeld ?_ ?_
    rotate_left
    ·rintro w' ⟨s0, s1, s2, s3, s4, s5, s6, s7, s8, s9, s10⟩
     go_simp
     with_reducible rfl
    rotate_left
    ·exact pA
    refine take_ (i := 10) (N := some 24) (v := ?_) (a' := ?_) #[true, true, false, true, true, false, true, true, false, true, true, true, false, false, false, false, false, false, false, false, false] rfl rfl (take_ofW HT_.out HW_.out (by kernel_rfl)) (fun _ _ _ h => h) (Or.inl ⟨by kernel_rfl, ?_⟩) hHeld ?_ ?_
    rotate_left
    ·rintro w' ⟨s0, s1, s2, s3, s4, s5, s6, s7, s8, s9, s10⟩
     go_simp
     with_reducible rfl
    rotate_left
    ·exact pA
    refine take_ (i := 12) (N := some 26) (v := ?_) (a' := ?_) #[true, true, false, true, true, false, true, true, false, true, true, true, true, false, false, false, false, false, false, false, false] rfl rfl (take_ofW HT_.out HW_.out (by kernel_rfl)) (fun _ _ _ h => h) (Or.inl ⟨by kernel_rfl, ?_⟩) hHeld ?_ ?_
    rotate_left
    ·rintro w' ⟨s0, s1, s2, s3, s4, s5, s6, s7, s8, s9, s10⟩
     go_simp
     with_reducible rfl
    rotate_left
    ·exact pA
    refine one_ (i := 2) (N := some 16) #[true, true, true, true, true, false, true, true, false, true, true, true, true, false, false, false, false, false, false, false, false] rfl rfl (one_of HT_.out (by kernel_rfl)) (by decide) (fun K hK => ?_)
    refine goes_ Tryd.func33 (by kernel_rfl) rfl #[.int .u64 a0_0] (by rfl) rfl rfl pM ?_
    with_reducible refine (minstrelref07_Number.calls a0_0 t362 t363 t364 t365 _ A7.out).mono ?_
    rintro e w51 ⟨v366, rfl, ho0, hb⟩
    refine ⟨_, rfl, ?_⟩
    have n0_ := Aside0.mk (Kd.V_elder' (pV HO0_6.out) (by first | exact Kd.R_base ho0 | exact Kd.N_base ho0) hb)
    have n1_ := Aside0.mk (Kd.V_elder' (pV HO0_10.out) (by first | exact Kd.R_base ho0 | exact Kd.N_base ho0) hb)
    have n2_ := Aside0.mk (Kd.N_lower (Kd.N_mono (ok' := fun k_ => ((P0_6_ k_ ∨ P0_10_ k_) ∨ w.heap.size ≤ k_) ∧ k_ ≠ gb360) (Kd.R_N (Kd.R_bound ho0)) (fun k_ hk_ => ⟨(.inr (Nat.le_trans (below_size pB) hk_.2.1)), (Kd.freshB (g := gb360) (o := .cells #[.int .u64 a0_0, .int .u64 a0_1, .slice A0_2 l0_2.length c0_2, .int .i64 a0_3, .int .u64 a0_4, .string a0_5, .slice A0_6 l0_6.length c0_6, .int .i64 a0_7, .int .u64 a0_8, .string a0_9, .slice A0_10 l0_10.length c0_10] 28 (0, 0)) (pK BK360.out) k_ hk_.2.1)⟩)) (below_size pB))
    have n3_ := Aside0.mk (pkb BK360.out hb)
    have n4_ := Aside0.mk (below_step pB hb)
    clear HO0_6 HO0_10 BK360 HB; have HO0_6 := n0_; have HO0_10 := n1_; have HO367 := n2_; have BK360 := n3_; have HB := n4_; clear n0_ n1_ n2_ n3_ n4_; (try clear hb); (try clear hb2); (try clear hk); (try clear hi); (try clear ho0)
    refine hK.out _ _ ⟨cz0 BK360.out, cz1 BK360.out, cz2 BK360.out, cz3 BK360.out, cz4 BK360.out, cz5 BK360.out, cz6 BK360.out, cz7 BK360.out, cz8 BK360.out, cz9 BK360.out, cz10 BK360.out⟩ (fun hHeld => ?_)
    clear hK K
    refine norm_ (a' := ?_) ?_ ?_
    rotate_left
    ·show Act.put _ (some 16) _ = _
     exact pA
    refine one_ (i := 5) (N := some 19) #[true, true, true, true, true, true, true, true, false, true, true, true, true, false, false, false, false, false, false, false, false] rfl rfl (one_of HT_.out (by kernel_rfl)) (by decide) (fun K hK => ?_)
    refine goes_ Tryd.func33 (by kernel_rfl) rfl #[.int .u64 a0_1] (by rfl) rfl rfl pM ?_
    with_reducible refine (minstrelref07_Number.calls a0_1 t368 t369 t370 t371 _ A8.out).mono ?_
    rintro e w52 ⟨v372, rfl, ho0, hb⟩
    refine ⟨_, rfl, ?_⟩
    have n0_ := Aside0.mk (Kd.V_elder' (pV HO0_6.out) (by first | exact Kd.R_base ho0 | exact Kd.N_base ho0) hb)
    have n1_ := Aside0.mk (Kd.V_elder' (pV HO0_10.out) (by first | exact Kd.R_base ho0 | exact Kd.N_base ho0) hb)
    have n2_ := Aside0.mk (Kd.N_elder' (pN HO367.out) (by first | exact Kd.R_base ho0 | exact Kd.N_base ho0) hb)
    have n3_ := Aside0.mk (Kd.N_lower (Kd.N_mono (ok' := fun k_ => ((P0_6_ k_ ∨ P0_10_ k_) ∨ w.heap.size ≤ k_) ∧ some k_ ≠ (v366 : Value).ownBlock ∧ k_ ≠ gb360) (Kd.R_N (Kd.R_bound ho0)) (fun k_ hk_ => ⟨(.inr (Nat.le_trans (below_size pB) hk_.2.1)), (Kd.fresh' (Kd.N_lt (pN HO367.out)) k_ hk_.2.1), (Kd.freshB (g := gb360) (o := .cells #[.int .u64 a0_0, .int .u64 a0_1, .slice A0_2 l0_2.length c0_2, .int .i64 a0_3, .int .u64 a0_4, .string a0_5, .slice A0_6 l0_6.length c0_6, .int .i64 a0_7, .int .u64 a0_8, .string a0_9, .slice A0_10 l0_10.length c0_10] 28 (0, 0)) (pK BK360.out) k_ hk_.2.1)⟩)) (below_size pB))
    have n4_ := Aside0.mk (pkb BK360.out hb)
    have n5_ := Aside0.mk (below_step pB hb)
    clear HO0_6 HO0_10 HO367 BK360 HB; have HO0_6 := n0_; have HO0_10 := n1_; have HO367 := n2_; have HO373 := n3_; have BK360 := n4_; have HB := n5_; clear n0_ n1_ n2_ n3_ n4_ n5_; (try clear hb); (try clear hb2); (try clear hk); (try clear hi); (try clear ho0)
    refine hK.out _ _ ⟨cz0 BK360.out, cz1 BK360.out, cz2 BK360.out, cz3 BK360.out, cz4 BK360.out, cz5 BK360.out, cz6 BK360.out, cz7 BK360.out, cz8 BK360.out, cz9 BK360.out, cz10 BK360.out⟩ (fun hHeld => ?_)
    clear hK K
    refine norm_ (a' := ?_) ?_ ?_
    rotate_left
    ·show Act.put _ (some 19) _ = _
     exact pA
    refine one_ (i := 8) (N := some 22) #[true, true, true, true, true, true, true, true, true, true, true, true, true, false, false, false, false, false, false, false, false] rfl rfl (one_of HT_.out (by kernel_rfl)) (by decide) (fun K hK => ?_)
    refine goes_ Tryd.func34 (by kernel_rfl) rfl #[.slice A0_2 l0_2.length c0_2] (by rfl) rfl rfl pM ?_
    with_reducible refine (minstrelref19_members.calls k _ _ l0_2 t374 t375 t376 t377 _ ?side1 ?side2 A9.out).mono ?_
    (case side1 => exact pC (Kd.C_below HR0_2.out HB.out))
    (case side2 => exact HC0_2.out)
    rintro e w53 ⟨v378, rfl, ho0, hb⟩
    refine ⟨_, rfl, ?_⟩
    have n0_ := Aside0.mk (Kd.V_below (pV HO0_6.out) hb)
    have n1_ := Aside0.mk (Kd.V_below (pV HO0_10.out) hb)
    have n2_ := Aside0.mk (Kd.N_below (pN HO367.out) hb)
    have n3_ := Aside0.mk (Kd.N_below (pN HO373.out) hb)
    have n4_ := Aside0.mk (Kd.V_lower (Kd.V_mono (ok' := fun k_ => ((P0_6_ k_ ∨ P0_10_ k_) ∨ w.heap.size ≤ k_) ∧ some k_ ≠ (v366 : Value).ownBlock ∧ some k_ ≠ (v372 : Value).ownBlock ∧ k_ ≠ gb360) ho0 (fun k_ hk_ => ⟨(.inr (Nat.le_trans (below_size pB) hk_)), (Kd.fresh' (Kd.N_lt (pN HO367.out)) k_ hk_), (Kd.fresh' (Kd.N_lt (pN HO373.out)) k_ hk_), (Kd.freshB (g := gb360) (o := .cells #[.int .u64 a0_0, .int .u64 a0_1, .slice A0_2 l0_2.length c0_2, .int .i64 a0_3, .int .u64 a0_4, .string a0_5, .slice A0_6 l0_6.length c0_6, .int .i64 a0_7, .int .u64 a0_8, .string a0_9, .slice A0_10 l0_10.length c0_10] 28 (0, 0)) (pK BK360.out) k_ hk_)⟩)) (below_size pB))
    have n5_ := Aside0.mk (pkb BK360.out hb)
    have n6_ := Aside0.mk (below_step pB hb)
    clear HO0_6 HO0_10 HO367 HO373 BK360 HB; have HO0_6 := n0_; have HO0_10 := n1_; have HO367 := n2_; have HO373 := n3_; have HO379 := n4_; have BK360 := n5_; have HB := n6_; clear n0_ n1_ n2_ n3_ n4_ n5_ n6_; (try clear hb); (try clear hb2); (try clear hk); (try clear hi); (try clear ho0)
    obtain ⟨Ao54, co54, eo54⟩ := Kd.N_slice HO367.out
    (first | subst eo54 | (injection eo54 with f1_ f2_ f3_; have f4_ := f1_.symm; have f5_ := f3_.symm; clear f1_ f2_ f3_; subst f4_; subst f5_))
    obtain ⟨Ao55, co55, eo55⟩ := Kd.N_slice HO373.out
    (first | subst eo55 | (injection eo55 with f1_ f2_ f3_; have f4_ := f1_.symm; have f5_ := f3_.symm; clear f1_ f2_ f3_; subst f4_; subst f5_))
    obtain ⟨Ao56, co56, eo56⟩ := Kd.V_slice HO379.out
    (first | subst eo56 | (injection eo56 with f1_ f2_ f3_; have f4_ := f1_.symm; have f5_ := f3_.symm; clear f1_ f2_ f3_; subst f4_; subst f5_))
    refine hK.out _ _ ⟨cz0 BK360.out, cz1 BK360.out, cz2 BK360.out, cz3 BK360.out, cz4 BK360.out, cz5 BK360.out, cz6 BK360.out, cz7 BK360.out, cz8 BK360.out, cz9 BK360.out, cz10 BK360.out⟩ (fun hHeld => ?_)
    clear hK K
    refine norm_ (a' := ?_) ?_ ?_
    rotate_left
    ·show Act.put _ (some 22) _ = _
     exact pA
    refine one_ (i := 13) (N := some 27) #[true, true, true, true, true, true, true, true, true, true, true, true, true, true, false, false, false, false, false, false, false] rfl rfl (one_of HT_.out (by kernel_rfl)) (by decide) (fun K hK => ?_)
    refine Kd.N_lit_step k26 _ 26 ?hg (N' := 27) ?hd (xs := ([(⟨t362, t363, t364, t365⟩ : S26), (⟨t368, t369, t370, t371⟩ : S26), (⟨t374, t375, t376, t377⟩ : S26), (⟨a0_3, a0_4, a0_5, l0_6⟩ : S26), (⟨a0_7, a0_8, a0_9, l0_10⟩ : S26)] : List (S26))) (inner := [.int .i64 t362, .int .u64 t363, .string t364, .slice Ao54 t365.length co54, .int .i64 t368, .int .u64 t369, .string t370, .slice Ao55 t371.length co55, .int .i64 t374, .int .u64 t375, .string t376, .slice Ao56 t377.length co56, .int .i64 a0_3, .int .u64 a0_4, .string a0_5, .slice A0_6 l0_6.length c0_6, .int .i64 a0_7, .int .u64 a0_8, .string a0_9, .slice A0_10 l0_10.length c0_10]) (ok := (fun k_ => ((P0_6_ k_ ∨ P0_10_ k_) ∨ w.heap.size ≤ k_) ∧ k_ ≠ gb360)) (okp := (fun k_ => ((P0_6_ k_ ∨ P0_10_ k_) ∨ w.heap.size ≤ k_) ∧ k_ ≠ gb360)) ?hr ?hp (fun _ hk => hk) ((show ∀ k_, w53.heap.size ≤ k_ → (fun k_ => ((P0_6_ k_ ∨ P0_10_ k_) ∨ w.heap.size ≤ k_) ∧ k_ ≠ gb360) k_ from fun k_ hk => ⟨(.inr (Nat.le_trans (below_size pB) hk)), Kd.freshB (g := gb360) (o := .cells #[.int .u64 a0_0, .int .u64 a0_1, .slice A0_2 l0_2.length c0_2, .int .i64 a0_3, .int .u64 a0_4, .string a0_5, .slice A0_6 l0_6.length c0_6, .int .i64 a0_7, .int .u64 a0_8, .string a0_9, .slice A0_10 l0_10.length c0_10] 28 (0, 0)) (pK BK360.out) k_ hk⟩) _ (Nat.le_refl _)) (Below.refl _ _) (Nat.le_refl _) (by simp) ?_; (case hd => rfl); (case hg => rfl); (case hr => first | (go_simp; done) | (go_simp; rfl)); (case hp => exact (Reps.c4 (show Kd.FK k26 _ _ (⟨t362, t363, t364, t365⟩ : S26) [.int .i64 t362, .int .u64 t363, .string t364, .slice Ao54 t365.length co54] from (k26_mkF _ _ (⟨t362, t363, t364, t365⟩ : S26) (Kd.N_reads' (Kd.N_mono (ok' := (fun k_ => ((P0_6_ k_ ∨ P0_10_ k_) ∨ w.heap.size ≤ k_) ∧ k_ ≠ gb360)) (HO367.out) (fun k_ hk => ⟨hk.1.1, hk.1.2⟩))).2.1 (Kd.N_F (Kd.N_mono (ok' := (fun k_ => ((P0_6_ k_ ∨ P0_10_ k_) ∨ w.heap.size ≤ k_) ∧ k_ ≠ gb360)) (HO367.out) (fun k_ hk => ⟨hk.1.1, hk.1.2⟩))))) (Reps.c4 (show Kd.FK k26 _ _ (⟨t368, t369, t370, t371⟩ : S26) [.int .i64 t368, .int .u64 t369, .string t370, .slice Ao55 t371.length co55] from (k26_mkF _ _ (⟨t368, t369, t370, t371⟩ : S26) (Kd.N_reads' (Kd.N_mono (ok' := (fun k_ => ((P0_6_ k_ ∨ P0_10_ k_) ∨ w.heap.size ≤ k_) ∧ k_ ≠ gb360)) (HO373.out) (fun k_ hk => ⟨hk.1, hk.2.2⟩))).2.1 (Kd.N_F (Kd.N_mono (ok' := (fun k_ => ((P0_6_ k_ ∨ P0_10_ k_) ∨ w.heap.size ≤ k_) ∧ k_ ≠ gb360)) (HO373.out) (fun k_ hk => ⟨hk.1, hk.2.2⟩))))) (Reps.c4 (show Kd.FK k26 _ _ (⟨t374, t375, t376, t377⟩ : S26) [.int .i64 t374, .int .u64 t375, .string t376, .slice Ao56 t377.length co56] from (k26_mkF _ _ (⟨t374, t375, t376, t377⟩ : S26) (Kd.V_reads' (Kd.V_mono (ok' := (fun k_ => ((P0_6_ k_ ∨ P0_10_ k_) ∨ w.heap.size ≤ k_) ∧ k_ ≠ gb360)) (HO379.out) (fun k_ hk => ⟨hk.1, hk.2.2.2⟩))).2.1 (Kd.V_F (Kd.V_mono (ok' := (fun k_ => ((P0_6_ k_ ∨ P0_10_ k_) ∨ w.heap.size ≤ k_) ∧ k_ ≠ gb360)) (HO379.out) (fun k_ hk => ⟨hk.1, hk.2.2.2⟩))))) (Reps.c4 (show Kd.FK k26 _ _ (⟨a0_3, a0_4, a0_5, l0_6⟩ : S26) [.int .i64 a0_3, .int .u64 a0_4, .string a0_5, .slice A0_6 l0_6.length c0_6] from (k26_mkF _ _ (⟨a0_3, a0_4, a0_5, l0_6⟩ : S26) (Kd.V_reads' (Kd.V_mono (ok' := (fun k_ => ((P0_6_ k_ ∨ P0_10_ k_) ∨ w.heap.size ≤ k_) ∧ k_ ≠ gb360)) (HO0_6.out) (fun k_ hk => ⟨hk.1.1.1, hk.1.1.2⟩))).2.1 (Kd.V_F (Kd.V_mono (ok' := (fun k_ => ((P0_6_ k_ ∨ P0_10_ k_) ∨ w.heap.size ≤ k_) ∧ k_ ≠ gb360)) (HO0_6.out) (fun k_ hk => ⟨hk.1.1.1, hk.1.1.2⟩))))) (Reps.c4 (show Kd.FK k26 _ _ (⟨a0_7, a0_8, a0_9, l0_10⟩ : S26) [.int .i64 a0_7, .int .u64 a0_8, .string a0_9, .slice A0_10 l0_10.length c0_10] from (k26_mkF _ _ (⟨a0_7, a0_8, a0_9, l0_10⟩ : S26) (Kd.V_reads' (Kd.V_mono (ok' := (fun k_ => ((P0_6_ k_ ∨ P0_10_ k_) ∨ w.heap.size ≤ k_) ∧ k_ ≠ gb360)) (HO0_10.out) (fun k_ hk => ⟨hk.1.1.1, hk.1.1.2⟩))).2.1 (Kd.V_F (Kd.V_mono (ok' := (fun k_ => ((P0_6_ k_ ∨ P0_10_ k_) ∨ w.heap.size ≤ k_) ∧ k_ ≠ gb360)) (HO0_10.out) (fun k_ hk => ⟨hk.1.1.1, hk.1.1.2⟩))))) (Reps.none _ _)))))))
    intro v381 w57 ho58 hb hg_ hnew_
    clear hg_ hnew_
    (first | rw [← Ny380.out] at ho58 | (simp only [Int.reduceToNat] at ho58; rw [← Ny380.out] at ho58))
    have n0_ := Aside0.mk (Kd.V_elder' (pV HO0_6.out) (by first | exact Kd.R_base ho58 | exact Kd.N_base ho58) hb)
    have n1_ := Aside0.mk (Kd.V_elder' (pV HO0_10.out) (by first | exact Kd.R_base ho58 | exact Kd.N_base ho58) hb)
    have n2_ := Aside0.mk (Kd.V_elder' (pV HO379.out) (by first | exact Kd.R_base ho58 | exact Kd.N_base ho58) hb)
    have n3_ := Aside0.mk (Kd.N_lower ho58 (below_size pB))
    have n4_ := Aside0.mk (pkb BK360.out hb)
    have n5_ := Aside0.mk (below_step pB hb)
    clear HO0_6 HO0_10 HO379 BK360 HB HO367 HO373; have HO0_6 := n0_; have HO0_10 := n1_; have HO379 := n2_; have HO382 := n3_; have BK360 := n4_; have HB := n5_; clear n0_ n1_ n2_ n3_ n4_ n5_ hb ho58
    obtain ⟨Ao59, co59, eo59⟩ := Kd.N_slice HO382.out
    (first | subst eo59 | (injection eo59 with f1_ f2_ f3_; have f4_ := f1_.symm; have f5_ := f3_.symm; clear f1_ f2_ f3_; subst f4_; subst f5_))
    refine hK.out _ _ ⟨cz0 BK360.out, cz1 BK360.out, cz2 BK360.out, cz3 BK360.out, cz4 BK360.out, cz5 BK360.out, cz6 BK360.out, cz7 BK360.out, cz8 BK360.out, cz9 BK360.out, cz10 BK360.out⟩ (fun hHeld => ?_)
    clear hK K
    refine norm_ (a' := ?_) ?_ ?_
    rotate_left
    ·show Act.put _ (some 27) _ = _
     exact pA
    refine one_ (i := 14) (N := some 28) #[true, true, true, true, true, true, true, true, true, true, true, true, true, true, true, false, false, false, false, false, false] rfl rfl (one_of HT_.out (by kernel_rfl)) (by decide) (fun K hK => ?_)
    refine goes_ Tryd.func32 (by kernel_rfl) rfl #[.slice Ao59 y380.length co59] (by rfl) rfl rfl pM ?_
    with_reducible refine (minstrelref07_List.calls (fun k_ => (((P0_6_ k_ ∨ P0_10_ k_) ∨ w.heap.size ≤ k_) ∧ k_ ≠ gb360)) _ _ y380 t383 t384 t385 t386 _ ?side1 A10.out).mono ?_
    (case side1 => exact Kd.N_V (HO382.out))
    rintro e w60 ⟨v387, rfl, ho0, hb⟩
    refine ⟨_, rfl, ?_⟩
    have n0_ := Aside0.mk (Kd.V_below (pV HO0_6.out) hb)
    have n1_ := Aside0.mk (Kd.V_below (pV HO0_10.out) hb)
    have n2_ := Aside0.mk (Kd.V_below (pV HO379.out) hb)
    have n3_ := Aside0.mk (Kd.N_below (pN HO382.out) hb)
    have n4_ := Aside0.mk (Kd.V_lower (Kd.V_mono (ok' := fun k_ => ((P0_6_ k_ ∨ P0_10_ k_) ∨ w.heap.size ≤ k_) ∧ k_ ≠ gb360) ho0 (fun k_ hk_ => ⟨Or.elim hk_ (fun hs_ => hs_.1) (fun hn_ => (.inr (Nat.le_trans (below_size pB) hn_))), Or.elim hk_ (fun hs_ => hs_.2) (fun hn_ => (Kd.freshB (g := gb360) (o := .cells #[.int .u64 a0_0, .int .u64 a0_1, .slice A0_2 l0_2.length c0_2, .int .i64 a0_3, .int .u64 a0_4, .string a0_5, .slice A0_6 l0_6.length c0_6, .int .i64 a0_7, .int .u64 a0_8, .string a0_9, .slice A0_10 l0_10.length c0_10] 28 (0, 0)) (pK BK360.out) k_ hn_))⟩)) (below_size pB))
    have n5_ := Aside0.mk (pkb BK360.out hb)
    have n6_ := Aside0.mk (below_step pB hb)
    clear HO0_6 HO0_10 HO379 HO382 BK360 HB; have HO0_6 := n0_; have HO0_10 := n1_; have HO379 := n2_; have HO382 := n3_; have HO388 := n4_; have BK360 := n5_; have HB := n6_; clear n0_ n1_ n2_ n3_ n4_ n5_ n6_; (try clear hb); (try clear hb2); (try clear hk); (try clear hi); (try clear ho0)
    obtain ⟨Ao61, co61, eo61⟩ := Kd.V_slice HO388.out
    (first | subst eo61 | (injection eo61 with f1_ f2_ f3_; have f4_ := f1_.symm; have f5_ := f3_.symm; clear f1_ f2_ f3_; subst f4_; subst f5_))
    refine hK.out _ _ ⟨cz0 BK360.out, cz1 BK360.out, cz2 BK360.out, cz3 BK360.out, cz4 BK360.out, cz5 BK360.out, cz6 BK360.out, cz7 BK360.out, cz8 BK360.out, cz9 BK360.out, cz10 BK360.out⟩ (fun hHeld => ?_)
    clear hK K
    refine norm_ (a' := ?_) ?_ ?_
    rotate_left
    ·show Act.put _ (some 28) _ = _
     exact pA
    refine one_ (i := 15) (N := some 29) #[true, true, true, true, true, true, true, true, true, true, true, true, true, true, true, true, false, false, false, false, false] rfl rfl (one_of HT_.out (by kernel_rfl)) (by decide) (fun K hK => ?_)
    refine goes_ Tryd.func31 (by kernel_rfl) rfl #[.agg #[.int .i64 t383, .int .u64 t384, .string t385, .slice Ao61 t386.length co61]] (by rfl) rfl rfl pM ?_
    with_reducible refine (minstrelref07_Encode.calls k t383 t384 t385 _ _ t386 t389 t392 _ ?side1 ?side2 A11.out).mono ?_
    (case side1 => repeat (first | exact (Kd.V_reads' HO388.out).2.2 | (with_reducible refine Kd.C_alloc ?_ _) | (with_reducible refine Kd.C_drewN ?_ _) | (with_reducible refine Kd.C_drew ?_)))
    (case side2 => exact (Kd.V_reads' HO388.out).2.1)
    rintro e w62 ⟨v390, rfl, ho0, hb⟩
    refine ⟨_, rfl, ?_⟩
    have n0_ := Aside0.mk (Kd.V_elder' (pV HO0_6.out) (Kd.R_base ho0) hb)
    have n1_ := Aside0.mk (Kd.V_elder' (pV HO0_10.out) (Kd.R_base ho0) hb)
    have n2_ := Aside0.mk (Kd.V_elder' (pV HO379.out) (Kd.R_base ho0) hb)
    have n3_ := Aside0.mk (Kd.N_elder' (pN HO382.out) (Kd.R_base ho0) hb)
    have n4_ := Aside0.mk (Kd.V_elder' (pV HO388.out) (Kd.R_base ho0) hb)
    have n5_ := Aside0.mk (Kd.R_lower (Kd.R_newM (M := fun k_ => (w.heap.size ≤ k_)) ho0 (below_size pB) (fun k_ h_ => h_)) (below_size pB))
    have n6_ := Aside0.mk (pkb BK360.out hb)
    have n7_ := Aside0.mk (below_step pB hb)
    clear HO0_6 HO0_10 HO379 HO382 HO388 BK360 HB; have HO0_6 := n0_; have HO0_10 := n1_; have HO379 := n2_; have HO382 := n3_; have HO388 := n4_; have HO391 := n5_; have BK360 := n6_; have HB := n7_; clear n0_ n1_ n2_ n3_ n4_ n5_ n6_ n7_; (try clear hb); (try clear hb2); (try clear hk); (try clear hi); (try clear ho0)
    refine hK.out _ _ ⟨cz0 BK360.out, cz1 BK360.out, cz2 BK360.out, cz3 BK360.out, cz4 BK360.out, cz5 BK360.out, cz6 BK360.out, cz7 BK360.out, cz8 BK360.out, cz9 BK360.out, cz10 BK360.out⟩ (fun hHeld => ?_)
    clear hK K
    refine norm_ (a' := ?_) ?_ ?_
    rotate_left
    ·show Act.put _ (some 29) _ = _
     exact pA
    refine pure_ (i := 16) (N := some 13) (v := ?_) (a' := ?_) #[true, true, true, true, true, true, true, true, true, true, true, true, true, true, true, true, true, false, false, false, false] rfl rfl (any_of HT_.out (by kernel_rfl)) (fun _ _ _ h => h) (Or.inl ⟨by kernel_rfl, ?_⟩) ?_ ?_
    rotate_left
    ·intro w'
     go_simp
     with_reducible rfl
    rotate_left
    ·exact pA
    refine pure_ (i := 17) (N := some 30) (v := ?_) (a' := ?_) #[true, true, true, true, true, true, true, true, true, true, true, true, true, true, true, true, true, true, false, false, false] rfl rfl (any_of HT_.out (by kernel_rfl)) (fun _ _ _ h => h) (Or.inl ⟨by kernel_rfl, ?_⟩) ?_ ?_
    rotate_left
    ·intro w'
     go_simp
     with_reducible rfl
    rotate_left
    ·exact pA
    refine pure_ (i := 18) (N := some 31) (v := ?_) (a' := ?_) #[true, true, true, true, true, true, true, true, true, true, true, true, true, true, true, true, true, true, true, false, false] rfl rfl (any_of HT_.out (by kernel_rfl)) (fun _ _ _ h => h) (Or.inl ⟨by kernel_rfl, ?_⟩) ?_ ?_
    rotate_left
    ·intro w'
     go_simp
     with_reducible rfl
    rotate_left
    ·exact pA
    refine pure_ (i := 19) (N := some 4) (v := ?_) (a' := ?_) #[true, true, true, true, true, true, true, true, true, true, true, true, true, true, true, true, true, true, true, true, false] rfl rfl (any_of HT_.out (by kernel_rfl)) (fun _ _ _ h => h) (Or.inl ⟨by kernel_rfl, ?_⟩) ?_ ?_
    rotate_left
    ·intro w'
     go_simp
     with_reducible rfl
    rotate_left
    ·exact pA
    refine pure_ (i := 20) (N := some 5) (v := ?_) (a' := ?_) #[true, true, true, true, true, true, true, true, true, true, true, true, true, true, true, true, true, true, true, true, true] rfl rfl (any_of HT_.out (by kernel_rfl)) (fun _ _ _ h => h) (Or.inl ⟨by kernel_rfl, ?_⟩) ?_ ?_
    rotate_left
    ·intro w'
     go_simp
     with_reducible rfl
    rotate_left
    ·exact pA
    refine done_ (done_of HT_.out (by kernel_rfl)) ?_
    try go_wp2
    go_ret2
    exact ⟨_, pE, pZ, pB⟩
 ·replace c3 := Bool.eq_false_iff.mpr c3
  subst c3
  have H1 : (some (([] : List Int), 1)) = some (r1, r2) := by rw [if_neg (show ¬ (false = true) by decide)] at H; exact H
  clear H
  have H := H1
  clear H1
  simp only [Option.some.injEq, Prod.mk.injEq] at H
  obtain ⟨rfl, rfl⟩ := H
  go_enter Tryd.func11, Tryd.ntmps11
  go_wp2_with (first | ((with_reducible refine gate_dst (N := 1) rfl ?_); refine box_event ?hg (N := 1) ?hd (cs := #[.int .u64 a0_0, .int .u64 a0_1, .slice A0_2 l0_2.length c0_2, .int .i64 a0_3, .int .u64 a0_4, .string a0_5, .slice A0_6 l0_6.length c0_6, .int .i64 a0_7, .int .u64 a0_8, .string a0_9, .slice A0_10 l0_10.length c0_10]) (t := 28) ?hr ?_; (case hd => rfl); (case hg => rfl); (case hr => first | (go_simp; done) | (go_simp; rfl)); intro gb360 hg w63 hbox hb; have n0_ := Aside0.mk (Kd.V_below (Kd.V_elderB (pV HO0_6.out) gb360 (Nat.le_of_eq hg.symm)) hb); have n1_ := Aside0.mk (Kd.V_below (Kd.V_elderB (pV HO0_10.out) gb360 (Nat.le_of_eq hg.symm)) hb); have n2_ := Aside0.mk (below_step pB hb); have n3_ := Aside0.mk (hbox); have n4_ := Aside0.mk ((by rw [hg]; exact (below_size pB) : w.heap.size ≤ gb360)); have n5_ := Aside0.mk ((by rw [hg]; exact (below_size pB) : w.heap.size ≤ gb360)); clear HO0_6; clear HO0_10; clear HB; have HO0_6 := n0_; have HO0_10 := n1_; have HB := n2_; have BK360 := n3_; have GW360 := n4_; have GE360 := n5_; clear n0_ n1_ n2_ n3_ n4_ n5_; clear hb hbox hg; obtain ⟨hcz64_0, hcz64_1, hcz64_2, hcz64_3, hcz64_4, hcz64_5, hcz64_6, hcz64_7, hcz64_8, hcz64_9, hcz64_10, hfz64_0, hfz64_1, hfz64_2, hfz64_3, hfz64_4, hfz64_5, hfz64_6, hfz64_7, hfz64_8, hfz64_9, hfz64_10⟩ := cf11 BK360.out) | ((with_reducible refine gate_callee (f := 13) rfl ?_); refine goesL_ (some 8) rfl rfl Tryd.func13 (by kernel_rfl) rfl #[.slice A0_2 l0_2.length c0_2] rfl pM ?_; (with_reducible refine (minstrelref19_Members.calls k _ _ l0_2 false _ ?side1 ?side2 A2.out).mono ?_); (case side1 => exact pC (Kd.C_below HR0_2.out HB.out)); (case side2 => exact HC0_2.out); rintro e w' ⟨rfl, ⟨nd, rfl⟩⟩; refine ⟨_, rfl, ?_⟩))
  go_ret2
  exact ⟨_, pE, pZ, pB⟩
end Go.Proofs.YtlkaffbgekbcfaaDoor.Pr
end
section
namespace Go.Proofs.YtlkaffbgekbcfaaDoor.Pr
open Go.RowKit Go.Proofs.YtlkaffbgekbcfaaDoorW.PrintWords Go.Proofs.YtlkaffbgekbcfaaDoorW.PrintLast Go.Proofs.YtlkaffbgekbcfaaDoorW.PrintMore
attribute [local go_sem] max2_int min2_int max_two min_two max_three min_three max_four min_four
set_option linter.unusedVariables false
set_option linter.unusedSimpArgs false
mutual
def minstrelref07_Same.l0 : Nat → Int → Int → Int → ByteArray → List (S26) → Int → Int → ByteArray → List (S26) → Option (Bool)
 | 0, _, _, _, _, _, _, _, _, _ => none
 | k + 1, x5, x397000, x397001, x397002, x397003, x398000, x398001, x398002, x398003 => if x5 < (x397003.length : Int) then (if 0 ≤ x5 then (if x5 < (x398003.length : Int) then ((minstrelref07_Same.f k ((rd_T26 x397003 x5).f0) ((rd_T26 x397003 x5).f1) ((rd_T26 x397003 x5).f2) ((rd_T26 x397003 x5).f3) ((rd_T26 x398003 x5).f0) ((rd_T26 x398003 x5).f1) ((rd_T26 x398003 x5).f2) ((rd_T26 x398003 x5).f3)).bind fun t400 => (if t400 = true then (minstrelref07_Same.l0 k (wrap64 (x5 + 1)) x397000 x397001 x397002 x397003 x398000 x398001 x398002 x398003) else (some false))) else (none)) else (none)) else (some true)
def minstrelref07_Same.f : Nat → Int → Int → ByteArray → List (S26) → Int → Int → ByteArray → List (S26) → Option (Bool)
 | 0, _, _, _, _, _, _, _, _ => none
 | k + 1, a0_0, a0_1, a0_2, l0_3, a1_0, a1_1, a1_2, l1_3 => if a0_0 = a1_0 then (if a0_0 = 0 then (some (a0_1 == a1_1)) else (if a0_0 = 1 then (some (a0_2.toList == a1_2.toList)) else (if a0_0 = 2 then (if (l0_3.length : Int) = (l1_3.length : Int) then (minstrelref07_Same.l0 k 0 a0_0 a0_1 a0_2 l0_3 a1_0 a1_1 a1_2 l1_3) else (some false)) else (some true)))) else (some false)
end
theorem minstrelref07_Same.mono_l : ∀ k, (∀ y0 y1 y2 y3 y4 y5 y6 y7, LeO (minstrelref07_Same.f k y0 y1 y2 y3 y4 y5 y6 y7) (minstrelref07_Same.f (k + 1) y0 y1 y2 y3 y4 y5 y6 y7)) ∧ (∀ y0 y1 y2 y3 y4 y5 y6 y7 y8, LeO (minstrelref07_Same.l0 k y0 y1 y2 y3 y4 y5 y6 y7 y8) (minstrelref07_Same.l0 (k + 1) y0 y1 y2 y3 y4 y5 y6 y7 y8))
 | 0 => ⟨fun _ _ _ _ _ _ _ _ r h => by simp [minstrelref07_Same.f] at h, fun _ _ _ _ _ _ _ _ _ r h => by simp [minstrelref07_Same.l0] at h⟩
 | k + 1 => by
  obtain ⟨ih0, ih1⟩ := minstrelref07_Same.mono_l k
  refine ⟨?_, ?_⟩
  ·intro y0 y1 y2 y3 y4 y5 y6 y7
   unfold minstrelref07_Same.f
   repeat' first
   | (with_reducible exact ih0 _ _ _ _ _ _ _ _)
   | (with_reducible exact ih1 _ _ _ _ _ _ _ _ _)
   | (with_reducible exact LeO.refl _)
   | (with_reducible exact LeO.none _)
   | (with_reducible refine LeO.ite ?_ ?_)
   | (with_reducible refine LeO.bind ?_ (fun _ => ?_))
   | exact ih0 _ _ _ _ _ _ _ _
   | exact ih1 _ _ _ _ _ _ _ _ _
   | exact LeO.none _
   | refine LeO.ite ?_ ?_
   | refine LeO.bind ?_ (fun _ => ?_)
  ·intro y0 y1 y2 y3 y4 y5 y6 y7 y8
   unfold minstrelref07_Same.l0
   repeat' first
   | (with_reducible exact ih0 _ _ _ _ _ _ _ _)
   | (with_reducible exact ih1 _ _ _ _ _ _ _ _ _)
   | (with_reducible exact LeO.refl _)
   | (with_reducible exact LeO.none _)
   | (with_reducible refine LeO.ite ?_ ?_)
   | (with_reducible refine LeO.bind ?_ (fun _ => ?_))
   | exact ih0 _ _ _ _ _ _ _ _
   | exact ih1 _ _ _ _ _ _ _ _ _
   | exact LeO.none _
   | refine LeO.ite ?_ ?_
   | refine LeO.bind ?_ (fun _ => ?_)
theorem minstrelref07_Same.mono : ∀ a0 a1 a2 a3 a4 a5 a6 a7 k, LeO (minstrelref07_Same.f k a0 a1 a2 a3 a4 a5 a6 a7) (minstrelref07_Same.f (k + 1) a0 a1 a2 a3 a4 a5 a6 a7) := by
 intro a0 a1 a2 a3 a4 a5 a6 a7 k
 obtain ⟨ih0, ih1⟩ := minstrelref07_Same.mono_l k
 exact ih0 a0 a1 a2 a3 a4 a5 a6 a7
def minstrelref07_Same.T13 : Bool × List (List Nat × List Nat) := (true, [([], []), ([0], [0]), ([], []), ([1, 2], [1, 2]), ([3], [3]), ([], []), ([5], [5]), ([], []), ([6, 7], [6, 7]), ([8], [8]), ([4, 9], [4, 9]), ([10], [10])])
def minstrelref07_Same.B13 : List Nat := [0, 1, 0, 7, 15, 0, 32, 0, 224, 480, 1023, 2047]
theorem minstrelref07_Same.tab13 : rtab .any (opsOf Tryd.f19 13) = minstrelref07_Same.T13 := by kernel_rfl
theorem minstrelref07_Same.bits13 : waitsOk minstrelref07_Same.T13.2 minstrelref07_Same.B13 = true := by kernel_rfl
set_option maxHeartbeats 8000000 in
set_option maxRecDepth 100000 in
theorem minstrelref07_Same.calls (k : Nat) : ∀ (a0_0 : Int) (a0_1 : Int) (a0_2 : ByteArray) (A0_3 : Option Addr) (c0_3 : Nat) (l0_3 : List (S26)) (a1_0 : Int) (a1_1 : Int) (a1_2 : ByteArray) (A1_3 : Option Addr) (c1_3 : Nat) (l1_3 : List (S26)) (r : Bool) (w : World) (hr0_3 : Kd.C k26 w A0_3 l0_3.length l0_3) (hc0_3 : l0_3.length ≤ c0_3) (hr1_3 : Kd.C k26 w A1_3 l1_3.length l1_3) (hc1_3 : l1_3.length ≤ c1_3) (h : minstrelref07_Same.f k a0_0 a0_1 a0_2 l0_3 a1_0 a1_1 a1_2 l1_3 = some r),
  Calls Tryd.prog 19 #[.agg #[.int .i64 a0_0, .int .u64 a0_1, .string a0_2, .slice A0_3 l0_3.length c0_3], .agg #[.int .i64 a1_0, .int .u64 a1_1, .string a1_2, .slice A1_3 l1_3.length c1_3]] w fun e w' => e = .returned (.bool r) ∧ Below w.heap.size w w' := by
 induction k using Nat.strongRecOn with
 | _ k ih =>
 intro a0_0 a0_1 a0_2 A0_3 c0_3 l0_3 a1_0 a1_1 a1_2 A1_3 c1_3 l1_3 r w hr0_3 hc0_3 hr1_3 hc1_3 h
 cases k with
 | zero => exact absurd h (by simp [minstrelref07_Same.f])
 | succ k =>
 simp only [minstrelref07_Same.f] at h
 have hu26 := Tryd.underlying26
 have HR0_3 := Aside0.mk hr0_3
 have HC0_3 := Aside0.mk hc0_3
 clear hr0_3 hc0_3
 have HR1_3 := Aside0.mk hr1_3
 have HC1_3 := Aside0.mk hc1_3
 clear hr1_3 hc1_3
 have HB := Aside0.mk (Below.refl w.heap.size w)
 have H : (if a0_0 = a1_0 then (if a0_0 = 0 then (some (a0_1 == a1_1)) else (if a0_0 = 1 then (some (a0_2.toList == a1_2.toList)) else (if a0_0 = 2 then (if (l0_3.length : Int) = (l1_3.length : Int) then (minstrelref07_Same.l0 k 0 a0_0 a0_1 a0_2 l0_3 a1_0 a1_1 a1_2 l1_3) else (some false)) else (some true)))) else (some false)) = some r := h
 clear h
 by_cases c3 : a0_0 = a1_0
 ·rw [if_pos c3] at H
  have c3b0 : (a0_0 == a1_0) = true := beq_iff_eq.mpr c3
  have c3b1 : (a0_0 != a1_0) = false := bne_eq_false_iff_eq.mpr c3
  clear c3
  by_cases c4 : a0_0 = 0
  ·rw [if_pos c4] at H
   have c4b0 : (a0_0 == 0) = true := beq_iff_eq.mpr c4
   have c4b1 : (a0_0 != 0) = false := bne_eq_false_iff_eq.mpr c4
   clear c4
   obtain rfl := Option.some.inj H
   go_enter Tryd.func19, Tryd.ntmps19
   go_wp2_with (first | ((with_reducible refine gate_dst (N := 2) rfl ?_); refine box_event ?hg (N := 2) ?hd (cs := #[.int .i64 a0_0, .int .u64 a0_1, .string a0_2, .slice A0_3 l0_3.length c0_3]) (t := 26) ?hr ?_; (case hd => rfl); (case hg => rfl); (case hr => first | (go_simp; done) | (go_simp; rfl)); intro gb396 hg w5 hbox hb; have n0_ := Aside0.mk (below_step pB hb); have n1_ := Aside0.mk (hbox); have n2_ := Aside0.mk ((by rw [hg]; exact (below_size pB) : w.heap.size ≤ gb396)); have n3_ := Aside0.mk ((by rw [hg]; exact (below_size pB) : w.heap.size ≤ gb396)); clear HB; have HB := n0_; have BK396 := n1_; have GW396 := n2_; have GE396 := n3_; clear n0_ n1_ n2_ n3_; clear hb hbox hg) | ((with_reducible refine gate_dst (N := 3) rfl ?_); refine box_event ?hg (N := 3) ?hd (cs := #[.int .i64 a1_0, .int .u64 a1_1, .string a1_2, .slice A1_3 l1_3.length c1_3]) (t := 26) ?hr ?_; (case hd => rfl); (case hg => rfl); (case hr => first | (go_simp; done) | (go_simp; rfl)); intro gb397 hg w6 hbox hb; have n0_ := Aside0.mk (pkb BK396.out hb); have n1_ := Aside0.mk (below_step pB hb); have n2_ := Aside0.mk (hbox); have n3_ := Aside0.mk ((by rw [hg]; exact (below_size pB) : w.heap.size ≤ gb397)); have n4_ := Aside0.mk ((by rw [hg]; exact (below_size pB) : w.heap.size ≤ gb397)); have n5_ := Aside0.mk ((by rw [hg]; exact Nat.ne_of_lt (pkl BK396.out) : gb396 ≠ gb397)); have n6_ := Aside0.mk ((by rw [hg]; exact Nat.ne_of_gt (pkl BK396.out) : gb397 ≠ gb396)); clear BK396; clear HB; have BK396 := n0_; have HB := n1_; have BK397 := n2_; have GW397 := n3_; have GE397 := n4_; have NB396_397 := n5_; have NB397_396 := n6_; clear n0_ n1_ n2_ n3_ n4_ n5_ n6_; clear hb hbox hg; have hnb7 := NB396_397.out; have hnc7 := NB397_396.out; obtain ⟨hcz8_0, hcz8_1, hcz8_2, hcz8_3, hfz8_0, hfz8_1, hfz8_2, hfz8_3⟩ := cf4 BK396.out; obtain ⟨hcz9_0, hcz9_1, hcz9_2, hcz9_3, hfz9_0, hfz9_1, hfz9_2, hfz9_3⟩ := cf4 BK397.out))
   go_ret
   exact ⟨pE, pB⟩
  ·rw [if_neg c4] at H
   have c4b0 : (a0_0 == 0) = false := beq_eq_false_iff_ne.mpr c4
   have c4b1 : (a0_0 != 0) = true := bne_iff_ne.mpr c4
   by_cases c10 : a0_0 = 1
   ·rw [if_pos c10] at H
    have c10b0 : (a0_0 == 1) = true := beq_iff_eq.mpr c10
    have c10b1 : (a0_0 != 1) = false := bne_eq_false_iff_eq.mpr c10
    clear c10
    obtain rfl := Option.some.inj H
    go_enter Tryd.func19, Tryd.ntmps19
    go_wp2_with (first | ((with_reducible refine gate_dst (N := 2) rfl ?_); refine box_event ?hg (N := 2) ?hd (cs := #[.int .i64 a0_0, .int .u64 a0_1, .string a0_2, .slice A0_3 l0_3.length c0_3]) (t := 26) ?hr ?_; (case hd => rfl); (case hg => rfl); (case hr => first | (go_simp; done) | (go_simp; rfl)); intro gb396 hg w11 hbox hb; have n0_ := Aside0.mk (below_step pB hb); have n1_ := Aside0.mk (hbox); have n2_ := Aside0.mk ((by rw [hg]; exact (below_size pB) : w.heap.size ≤ gb396)); have n3_ := Aside0.mk ((by rw [hg]; exact (below_size pB) : w.heap.size ≤ gb396)); clear HB; have HB := n0_; have BK396 := n1_; have GW396 := n2_; have GE396 := n3_; clear n0_ n1_ n2_ n3_; clear hb hbox hg) | ((with_reducible refine gate_dst (N := 3) rfl ?_); refine box_event ?hg (N := 3) ?hd (cs := #[.int .i64 a1_0, .int .u64 a1_1, .string a1_2, .slice A1_3 l1_3.length c1_3]) (t := 26) ?hr ?_; (case hd => rfl); (case hg => rfl); (case hr => first | (go_simp; done) | (go_simp; rfl)); intro gb397 hg w12 hbox hb; have n0_ := Aside0.mk (pkb BK396.out hb); have n1_ := Aside0.mk (below_step pB hb); have n2_ := Aside0.mk (hbox); have n3_ := Aside0.mk ((by rw [hg]; exact (below_size pB) : w.heap.size ≤ gb397)); have n4_ := Aside0.mk ((by rw [hg]; exact (below_size pB) : w.heap.size ≤ gb397)); have n5_ := Aside0.mk ((by rw [hg]; exact Nat.ne_of_lt (pkl BK396.out) : gb396 ≠ gb397)); have n6_ := Aside0.mk ((by rw [hg]; exact Nat.ne_of_gt (pkl BK396.out) : gb397 ≠ gb396)); clear BK396; clear HB; have BK396 := n0_; have HB := n1_; have BK397 := n2_; have GW397 := n3_; have GE397 := n4_; have NB396_397 := n5_; have NB397_396 := n6_; clear n0_ n1_ n2_ n3_ n4_ n5_ n6_; clear hb hbox hg; have hnb13 := NB396_397.out; have hnc13 := NB397_396.out; obtain ⟨hcz14_0, hcz14_1, hcz14_2, hcz14_3, hfz14_0, hfz14_1, hfz14_2, hfz14_3⟩ := cf4 BK396.out; obtain ⟨hcz15_0, hcz15_1, hcz15_2, hcz15_3, hfz15_0, hfz15_1, hfz15_2, hfz15_3⟩ := cf4 BK397.out))
    go_ret
    exact ⟨pE, pB⟩
   ·rw [if_neg c10] at H
    have c10b0 : (a0_0 == 1) = false := beq_eq_false_iff_ne.mpr c10
    have c10b1 : (a0_0 != 1) = true := bne_iff_ne.mpr c10
    by_cases c16 : a0_0 = 2
    ·rw [if_pos c16] at H
     have c16b0 : (a0_0 == 2) = true := beq_iff_eq.mpr c16
     have c16b1 : (a0_0 != 2) = false := bne_eq_false_iff_eq.mpr c16
     clear c16
     by_cases c17 : (l0_3.length : Int) = (l1_3.length : Int)
     ·rw [if_pos c17] at H
      have c17b0 : ((l0_3.length : Int) == (l1_3.length : Int)) = true := beq_iff_eq.mpr c17
      have c17b1 : ((l0_3.length : Int) != (l1_3.length : Int)) = false := bne_eq_false_iff_eq.mpr c17
      have c17b2 : (l0_3.length == l1_3.length) = true := by first | simpa using c17 | (simp at c17 ⊢; omega)
      clear c17
      have H' := Aside0.mk H
      clear H
      go_enter Tryd.func19, Tryd.ntmps19
      go_wp2_with (first | ((with_reducible refine gate_dst (N := 2) rfl ?_); refine box_event ?hg (N := 2) ?hd (cs := #[.int .i64 a0_0, .int .u64 a0_1, .string a0_2, .slice A0_3 l0_3.length c0_3]) (t := 26) ?hr ?_; (case hd => rfl); (case hg => rfl); (case hr => first | (go_simp; done) | (go_simp; rfl)); intro gb396 hg w18 hbox hb; have n0_ := Aside0.mk (below_step pB hb); have n1_ := Aside0.mk (hbox); have n2_ := Aside0.mk ((by rw [hg]; exact (below_size pB) : w.heap.size ≤ gb396)); have n3_ := Aside0.mk ((by rw [hg]; exact (below_size pB) : w.heap.size ≤ gb396)); clear HB; have HB := n0_; have BK396 := n1_; have GW396 := n2_; have GE396 := n3_; clear n0_ n1_ n2_ n3_; clear hb hbox hg) | ((with_reducible refine gate_dst (N := 3) rfl ?_); refine box_event ?hg (N := 3) ?hd (cs := #[.int .i64 a1_0, .int .u64 a1_1, .string a1_2, .slice A1_3 l1_3.length c1_3]) (t := 26) ?hr ?_; (case hd => rfl); (case hg => rfl); (case hr => first | (go_simp; done) | (go_simp; rfl)); intro gb397 hg w19 hbox hb; have n0_ := Aside0.mk (pkb BK396.out hb); have n1_ := Aside0.mk (below_step pB hb); have n2_ := Aside0.mk (hbox); have n3_ := Aside0.mk ((by rw [hg]; exact (below_size pB) : w.heap.size ≤ gb397)); have n4_ := Aside0.mk ((by rw [hg]; exact (below_size pB) : w.heap.size ≤ gb397)); have n5_ := Aside0.mk ((by rw [hg]; exact Nat.ne_of_lt (pkl BK396.out) : gb396 ≠ gb397)); have n6_ := Aside0.mk ((by rw [hg]; exact Nat.ne_of_gt (pkl BK396.out) : gb397 ≠ gb396)); clear BK396; clear HB; have BK396 := n0_; have HB := n1_; have BK397 := n2_; have GW397 := n3_; have GE397 := n4_; have NB396_397 := n5_; have NB397_396 := n6_; clear n0_ n1_ n2_ n3_ n4_ n5_ n6_; clear hb hbox hg; have hnb20 := NB396_397.out; have hnc20 := NB397_396.out; obtain ⟨hcz21_0, hcz21_1, hcz21_2, hcz21_3, hfz21_0, hfz21_1, hfz21_2, hfz21_3⟩ := cf4 BK396.out; obtain ⟨hcz22_0, hcz22_1, hcz22_2, hcz22_3, hfz22_0, hfz22_1, hfz22_2, hfz22_3⟩ := cf4 BK397.out))
      go_loopg [5] k (fun kq v5 w' => ∃ (x5_1 : Int), v5 = .int .i64 x5_1 ∧ Aside0 (minstrelref07_Same.l0 kq x5_1 a0_0 a0_1 a0_2 l0_3 a1_0 a1_1 a1_2 l1_3 = some r) ∧ Aside0 (kq ≤ k) ∧ Aside0 (w'.heap[gb396]? = some (.cells #[.int .i64 a0_0, .int .u64 a0_1, .string a0_2, (.slice A0_3 l0_3.length c0_3)] 26 (0, 0))) ∧ Aside0 (w'.heap[gb397]? = some (.cells #[.int .i64 a1_0, .int .u64 a1_1, .string a1_2, (.slice A1_3 l1_3.length c1_3)] 26 (0, 0))) ∧ Aside0 (Below w.heap.size w w'))
      case atStart => exact ⟨(0), (by first | rfl | (simp; done) | (simp [*]; done)), H', ⟨Nat.le_refl _⟩, ⟨by (with_reducible repeat (first | refine blk_drewN ?_ _ | refine blk_drew ?_ | refine blk_alloc ?_ _)); exact BK396.out⟩, ⟨by (with_reducible repeat (first | refine blk_drewN ?_ _ | refine blk_drew ?_ | refine blk_alloc ?_ _)); exact BK397.out⟩, ⟨pB⟩⟩
      case round =>
       clear H'
       try clear c1
       try clear c2
       try clear p2
       try clear c3
       try clear c3b0
       try clear c3b1
       try clear c4
       try clear c4b0
       try clear c4b1
       try clear c7
       try clear c10
       try clear c10b0
       try clear c10b1
       try clear c13
       try clear c16
       try clear c16b0
       try clear c16b1
       try clear c17
       try clear c17b0
       try clear c17b1
       try clear c17b2
       try clear c19
       try clear c20
       try clear hcz14_0 hcz14_1 hcz14_2 hcz14_3 hcz15_0 hcz15_1 hcz15_2 hcz15_3 hcz21_0 hcz21_1 hcz21_2 hcz21_3 hcz22_0 hcz22_1 hcz22_2 hcz22_3 hcz8_0 hcz8_1 hcz8_2 hcz8_3 hcz9_0 hcz9_1 hcz9_2 hcz9_3 hfz14_0 hfz14_1 hfz14_2 hfz14_3 hfz15_0 hfz15_1 hfz15_2 hfz15_3 hfz21_0 hfz21_1 hfz21_2 hfz21_3 hfz22_0 hfz22_1 hfz22_2 hfz22_3 hfz8_0 hfz8_1 hfz8_2 hfz8_3 hfz9_0 hfz9_1 hfz9_2 hfz9_3
       obtain ⟨x5_1, rfl, HA, HK1, BK396, BK397, HB⟩ := hrel
       cases gk with
       | zero => exact absurd HA.out (by simp [minstrelref07_Same.l0])
       | succ k1 =>
        have H := HA.out
        clear HA
        simp only [minstrelref07_Same.l0] at H
        by_cases c23 : x5_1 < (l0_3.length : Int)
        ·rw [if_pos c23] at H
         have c23b0 : decide (x5_1 < (l0_3.length : Int)) = true := decide_eq_true c23
         clear c23
         by_cases c24 : 0 ≤ x5_1
         ·rw [if_pos c24] at H
          have c24b0 : decide (0 ≤ x5_1) = true := decide_eq_true c24
          clear c24
          by_cases c25 : x5_1 < (l1_3.length : Int)
          ·rw [if_pos c25] at H
           have c25b0 : decide (x5_1 < (l1_3.length : Int)) = true := decide_eq_true c25
           clear c25
           replace H := Option.bind_eq_some_iff.mp H
           obtain ⟨t400, A260, H⟩ := H
           replace H : (if t400 = true then (minstrelref07_Same.l0 k1 (wrap64 (x5_1 + 1)) a0_0 a0_1 a0_2 l0_3 a1_0 a1_1 a1_2 l1_3) else (some false)) = some r := H
           have A26 := Aside0.mk A260
           clear A260
           by_cases c27 : t400 = true
           ·subst c27
            have H1 : (minstrelref07_Same.l0 k1 (wrap64 (x5_1 + 1)) a0_0 a0_1 a0_2 l0_3 a1_0 a1_1 a1_2 l1_3) = some r := by rw [if_pos rfl] at H; exact H
            clear H
            have H := H1
            clear H1
            have H' := Aside0.mk H
            clear H
            have hnb28 := NB396_397.out
            have hnc28 := NB397_396.out
            obtain ⟨hcz29_0, hcz29_1, hcz29_2, hcz29_3, hfz29_0, hfz29_1, hfz29_2, hfz29_3⟩ := cf4 BK396.out
            try go_wp2
            have n0_ := Aside0.mk (blk_drew BK396.out)
            have n1_ := Aside0.mk (blk_drew BK397.out)
            have n2_ := Aside0.mk (below_drew1 HB.out)
            clear BK396 BK397 HB; have BK396 := n0_; have BK397 := n1_; have HB := n2_; clear n0_ n1_ n2_
            have p398 : 0 ≤ (x5_1 : Int) := pD
            have q398 : x5_1 < (l0_3.length : Int) := pD
            obtain ⟨ad398, A398_3, c398_3, e398, hx398_0, hx398_1, hx398_2, hx398_3, hl398_3, hi398_3⟩ := at_T26 HR0_3.out x5_1 p398 q398
            have hw398_3 := hx398_3
            have hw398_2 := hx398_2
            have hw398_1 := hx398_1
            have hw398_0 := hx398_0
            cases e398
            replace hx398_0 := (HB.out.cell (World.block_lt_of_cell? w _ hx398_0)).trans hx398_0
            replace hx398_1 := (HB.out.cell (World.block_lt_of_cell? w _ hx398_1)).trans hx398_1
            replace hx398_2 := (HB.out.cell (World.block_lt_of_cell? w _ hx398_2)).trans hx398_2
            replace hx398_3 := (HB.out.cell (World.block_lt_of_cell? w _ hx398_3)).trans hx398_3
            have HR398_3 := Aside0.mk hi398_3
            have HC398_3 := Aside0.mk hl398_3
            clear hi398_3 hl398_3
            replace p398 := eq_true p398
            replace q398 := eq_true q398
            have p399 : 0 ≤ (x5_1 : Int) := pD
            have q399 : x5_1 < (l1_3.length : Int) := pD
            obtain ⟨ad399, A399_3, c399_3, e399, hx399_0, hx399_1, hx399_2, hx399_3, hl399_3, hi399_3⟩ := at_T26 HR1_3.out x5_1 p399 q399
            have hw399_3 := hx399_3
            have hw399_2 := hx399_2
            have hw399_1 := hx399_1
            have hw399_0 := hx399_0
            cases e399
            replace hx399_0 := (HB.out.cell (World.block_lt_of_cell? w _ hx399_0)).trans hx399_0
            replace hx399_1 := (HB.out.cell (World.block_lt_of_cell? w _ hx399_1)).trans hx399_1
            replace hx399_2 := (HB.out.cell (World.block_lt_of_cell? w _ hx399_2)).trans hx399_2
            replace hx399_3 := (HB.out.cell (World.block_lt_of_cell? w _ hx399_3)).trans hx399_3
            have HR399_3 := Aside0.mk hi399_3
            have HC399_3 := Aside0.mk hl399_3
            clear hi399_3 hl399_3
            replace p399 := eq_true p399
            replace q399 := eq_true q399
            refine start_ (n := 12) (S := fun w' => w'.cell? ⟨gb396, 0, none⟩ = some (.int .i64 a0_0) ∧ w'.cell? ⟨gb396, 1, none⟩ = some (.int .u64 a0_1) ∧ w'.cell? ⟨gb396, 2, none⟩ = some (.string a0_2) ∧ w'.cell? ⟨gb396, 3, none⟩ = some (.slice (some ad398) l0_3.length c0_3) ∧ w'.cell? ⟨gb397, 0, none⟩ = some (.int .i64 a1_0) ∧ w'.cell? ⟨gb397, 1, none⟩ = some (.int .u64 a1_1) ∧ w'.cell? ⟨gb397, 2, none⟩ = some (.string a1_2) ∧ w'.cell? ⟨gb397, 3, none⟩ = some (.slice (some ad399) l1_3.length c1_3) ∧ w'.cell? (ad398.add ((x5_1).toNat * 4)) = some (.int .i64 ((rd_T26 l0_3 x5_1).f0)) ∧ w'.cell? ⟨(ad398.add ((x5_1).toNat * 4)).block, (ad398.add ((x5_1).toNat * 4)).off + 1, none⟩ = some (.int .u64 ((rd_T26 l0_3 x5_1).f1)) ∧ w'.cell? ⟨(ad398.add ((x5_1).toNat * 4)).block, (ad398.add ((x5_1).toNat * 4)).off + 2, none⟩ = some (.string ((rd_T26 l0_3 x5_1).f2)) ∧ w'.cell? ⟨(ad398.add ((x5_1).toNat * 4)).block, (ad398.add ((x5_1).toNat * 4)).off + 3, none⟩ = some (.slice A398_3 ((rd_T26 l0_3 x5_1).f3).length c398_3) ∧ w'.cell? (ad399.add ((x5_1).toNat * 4)) = some (.int .i64 ((rd_T26 l1_3 x5_1).f0)) ∧ w'.cell? ⟨(ad399.add ((x5_1).toNat * 4)).block, (ad399.add ((x5_1).toNat * 4)).off + 1, none⟩ = some (.int .u64 ((rd_T26 l1_3 x5_1).f1)) ∧ w'.cell? ⟨(ad399.add ((x5_1).toNat * 4)).block, (ad399.add ((x5_1).toNat * 4)).off + 2, none⟩ = some (.string ((rd_T26 l1_3 x5_1).f2)) ∧ w'.cell? ⟨(ad399.add ((x5_1).toNat * 4)).block, (ad399.add ((x5_1).toNat * 4)).off + 3, none⟩ = some (.slice A399_3 ((rd_T26 l1_3 x5_1).f3).length c399_3)) (ds := []) #[false, false, false, false, false, false, false, false, false, false, false, false] (by kernel_rfl) rfl rfl ⟨cz0 BK396.out, cz1 BK396.out, cz2 BK396.out, cz3 BK396.out, cz0 BK397.out, cz1 BK397.out, cz2 BK397.out, cz3 BK397.out, ((HB.out.cell (World.block_lt_of_cell? w _ hw398_0)).trans hw398_0), ((HB.out.cell (World.block_lt_of_cell? w _ hw398_1)).trans hw398_1), ((HB.out.cell (World.block_lt_of_cell? w _ hw398_2)).trans hw398_2), ((HB.out.cell (World.block_lt_of_cell? w _ hw398_3)).trans hw398_3), ((HB.out.cell (World.block_lt_of_cell? w _ hw399_0)).trans hw399_0), ((HB.out.cell (World.block_lt_of_cell? w _ hw399_1)).trans hw399_1), ((HB.out.cell (World.block_lt_of_cell? w _ hw399_2)).trans hw399_2), ((HB.out.cell (World.block_lt_of_cell? w _ hw399_3)).trans hw399_3)⟩ (fun hHeld => ?_); refine with_tabW minstrelref07_Same.tab13 minstrelref07_Same.bits13 (fun HT_ HW_ => ?_)
            generalize wr.drew = w30 at BK396 BK397 HB HR398_3 HR399_3 hx398_0 hx398_1 hx398_2 hx398_3 hx399_0 hx399_1 hx399_2 hx399_3 hHeld ⊢
            refine pure_ (i := 0) (N := some 44) (v := ?_) (a' := ?_) #[true, false, false, false, false, false, false, false, false, false, false, false] rfl rfl (any_of HT_.out (by kernel_rfl)) (fun _ _ _ h => h) (Or.inl ⟨by kernel_rfl, ?_⟩) ?_ ?_
            rotate_left
            ·intro w'
             go_simp
             with_reducible rfl
            rotate_left
            ·exact pA
            refine pure_ (i := 2) (N := some 46) (v := ?_) (a' := ?_) #[true, false, true, false, false, false, false, false, false, false, false, false] rfl rfl (any_of HT_.out (by kernel_rfl)) (fun _ _ _ h => h) (Or.inl ⟨by kernel_rfl, ?_⟩) ?_ ?_
            rotate_left
            ·intro w'
             go_simp
             with_reducible rfl
            rotate_left
            ·exact pA
            refine pure_ (i := 5) (N := some 49) (v := ?_) (a' := ?_) #[true, false, true, false, false, true, false, false, false, false, false, false] rfl rfl (any_of HT_.out (by kernel_rfl)) (fun _ _ _ h => h) (Or.inl ⟨by kernel_rfl, ?_⟩) ?_ ?_
            rotate_left
            ·intro w'
             go_simp
             with_reducible rfl
            rotate_left
            ·exact pA
            refine pure_ (i := 7) (N := some 51) (v := ?_) (a' := ?_) #[true, false, true, false, false, true, false, true, false, false, false, false] rfl rfl (any_of HT_.out (by kernel_rfl)) (fun _ _ _ h => h) (Or.inl ⟨by kernel_rfl, ?_⟩) ?_ ?_
            rotate_left
            ·intro w'
             go_simp
             with_reducible rfl
            rotate_left
            ·exact pA
            refine take_ (i := 1) (N := some 45) (v := ?_) (a' := ?_) #[true, true, true, false, false, true, false, true, false, false, false, false] rfl rfl (take_ofW HT_.out HW_.out (by kernel_rfl)) (fun _ _ _ h => h) (Or.inl ⟨by kernel_rfl, ?_⟩) hHeld ?_ ?_
            rotate_left
            ·rintro w' ⟨s0, s1, s2, s3, s4, s5, s6, s7, s8, s9, s10, s11, s12, s13, s14, s15⟩
             go_simp
             with_reducible rfl
            rotate_left
            ·exact pA
            refine pure_ (i := 3) (N := some 47) (v := ?_) (a' := ?_) #[true, true, true, true, false, true, false, true, false, false, false, false] rfl rfl (any_of HT_.out (by kernel_rfl)) (fun _ _ _ h => h) (Or.inl ⟨by kernel_rfl, ?_⟩) ?_ ?_
            rotate_left
            ·intro w'
             go_simp
             with_reducible rfl
            rotate_left
            ·exact pA
            refine take_ (i := 4) (N := some 48) (v := ?_) (a' := ?_) #[true, true, true, true, true, true, false, true, false, false, false, false] rfl rfl (take_ofW HT_.out HW_.out (by kernel_rfl)) (fun _ _ _ h => h) (Or.inl ⟨by kernel_rfl, ?_⟩) hHeld ?_ ?_
            rotate_left
            ·rintro w' ⟨s0, s1, s2, s3, s4, s5, s6, s7, s8, s9, s10, s11, s12, s13, s14, s15⟩
             go_simp
             with_reducible rfl
            rotate_left
            ·exact pA
            refine take_ (i := 6) (N := some 50) (v := ?_) (a' := ?_) #[true, true, true, true, true, true, true, true, false, false, false, false] rfl rfl (take_ofW HT_.out HW_.out (by kernel_rfl)) (fun _ _ _ h => h) (Or.inl ⟨by kernel_rfl, ?_⟩) hHeld ?_ ?_
            rotate_left
            ·rintro w' ⟨s0, s1, s2, s3, s4, s5, s6, s7, s8, s9, s10, s11, s12, s13, s14, s15⟩
             go_simp
             with_reducible rfl
            rotate_left
            ·exact pA
            refine pure_ (i := 8) (N := some 52) (v := ?_) (a' := ?_) #[true, true, true, true, true, true, true, true, true, false, false, false] rfl rfl (any_of HT_.out (by kernel_rfl)) (fun _ _ _ h => h) (Or.inl ⟨by kernel_rfl, ?_⟩) ?_ ?_
            rotate_left
            ·intro w'
             go_simp
             with_reducible rfl
            rotate_left
            ·exact pA
            refine take_ (i := 9) (N := some 53) (v := ?_) (a' := ?_) #[true, true, true, true, true, true, true, true, true, true, false, false] rfl rfl (take_ofW HT_.out HW_.out (by kernel_rfl)) (fun _ _ _ h => h) (Or.inl ⟨by kernel_rfl, ?_⟩) hHeld ?_ ?_
            rotate_left
            ·rintro w' ⟨s0, s1, s2, s3, s4, s5, s6, s7, s8, s9, s10, s11, s12, s13, s14, s15⟩
             go_simp
             with_reducible rfl
            rotate_left
            ·exact pA
            refine one_ (i := 10) (N := some 54) #[true, true, true, true, true, true, true, true, true, true, true, false] rfl rfl (one_of HT_.out (by kernel_rfl)) (by decide) (fun K hK => ?_)
            refine goes_ Tryd.func19 (by kernel_rfl) rfl #[.agg #[.int .i64 ((rd_T26 l0_3 x5_1).f0), .int .u64 ((rd_T26 l0_3 x5_1).f1), .string ((rd_T26 l0_3 x5_1).f2), .slice A398_3 ((rd_T26 l0_3 x5_1).f3).length c398_3], .agg #[.int .i64 ((rd_T26 l1_3 x5_1).f0), .int .u64 ((rd_T26 l1_3 x5_1).f1), .string ((rd_T26 l1_3 x5_1).f2), .slice A399_3 ((rd_T26 l1_3 x5_1).f3).length c399_3]] (by rfl) rfl rfl pM ?_
            with_reducible refine (ih k1 (by have := HK1.out; omega) ((rd_T26 l0_3 x5_1).f0) ((rd_T26 l0_3 x5_1).f1) ((rd_T26 l0_3 x5_1).f2) _ _ ((rd_T26 l0_3 x5_1).f3) ((rd_T26 l1_3 x5_1).f0) ((rd_T26 l1_3 x5_1).f1) ((rd_T26 l1_3 x5_1).f2) _ _ ((rd_T26 l1_3 x5_1).f3) true _ ?side1 ?side2 ?side3 ?side4 A26.out).mono ?_
            (case side1 => exact pC (Kd.C_below HR398_3.out HB.out))
            (case side2 => exact HC398_3.out)
            (case side3 => exact pC (Kd.C_below HR399_3.out HB.out))
            (case side4 => exact HC399_3.out)
            rintro e w31 ⟨rfl, hb⟩
            refine ⟨_, rfl, ?_⟩
            have n0_ := Aside0.mk (pkb BK396.out hb)
            have n1_ := Aside0.mk (pkb BK397.out hb)
            have n2_ := Aside0.mk (below_step pB hb)
            clear BK396 BK397 HB; have BK396 := n0_; have BK397 := n1_; have HB := n2_; clear n0_ n1_ n2_; (try clear hb); (try clear hb2); (try clear hk); (try clear hi)
            refine hK.out _ _ ⟨cz0 BK396.out, cz1 BK396.out, cz2 BK396.out, cz3 BK396.out, cz0 BK397.out, cz1 BK397.out, cz2 BK397.out, cz3 BK397.out, ((HB.out.cell (World.block_lt_of_cell? w _ hw398_0)).trans hw398_0), ((HB.out.cell (World.block_lt_of_cell? w _ hw398_1)).trans hw398_1), ((HB.out.cell (World.block_lt_of_cell? w _ hw398_2)).trans hw398_2), ((HB.out.cell (World.block_lt_of_cell? w _ hw398_3)).trans hw398_3), ((HB.out.cell (World.block_lt_of_cell? w _ hw399_0)).trans hw399_0), ((HB.out.cell (World.block_lt_of_cell? w _ hw399_1)).trans hw399_1), ((HB.out.cell (World.block_lt_of_cell? w _ hw399_2)).trans hw399_2), ((HB.out.cell (World.block_lt_of_cell? w _ hw399_3)).trans hw399_3)⟩ (fun hHeld => ?_)
            clear hK K
            refine norm_ (a' := ?_) ?_ ?_
            rotate_left
            ·show Act.put _ (some 54) _ = _
             exact pA
            refine pure_ (i := 11) (N := some 55) (v := ?_) (a' := ?_) #[true, true, true, true, true, true, true, true, true, true, true, true] rfl rfl (any_of HT_.out (by kernel_rfl)) (fun _ _ _ h => h) (Or.inl ⟨by kernel_rfl, ?_⟩) ?_ ?_
            rotate_left
            ·intro w'
             go_simp
             with_reducible rfl
            rotate_left
            ·exact pA
            refine done_ (done_of HT_.out (by kernel_rfl)) ?_
            try go_wp2
            go_roundg k1
            case measure => have := HK1.out; omega
            case rel => exact ⟨(wrap64 (x5_1 + 1)), (by first | rfl | (simp; done) | (simp [*]; done)), H', ⟨by have := HK1.out; omega⟩, ⟨by (with_reducible repeat (first | refine blk_drewN ?_ _ | refine blk_drew ?_ | refine blk_alloc ?_ _)); exact BK396.out⟩, ⟨by (with_reducible repeat (first | refine blk_drewN ?_ _ | refine blk_drew ?_ | refine blk_alloc ?_ _)); exact BK397.out⟩, ⟨pB⟩⟩
           ·replace c27 := Bool.eq_false_iff.mpr c27
            subst c27
            have H1 : (some false) = some r := by rw [if_neg (show ¬ (false = true) by decide)] at H; exact H
            clear H
            have H := H1
            clear H1
            obtain rfl := Option.some.inj H
            have hnb32 := NB396_397.out
            have hnc32 := NB397_396.out
            obtain ⟨hcz33_0, hcz33_1, hcz33_2, hcz33_3, hfz33_0, hfz33_1, hfz33_2, hfz33_3⟩ := cf4 BK396.out
            try go_wp2
            have n0_ := Aside0.mk (blk_drew BK396.out)
            have n1_ := Aside0.mk (blk_drew BK397.out)
            have n2_ := Aside0.mk (below_drew1 HB.out)
            clear BK396 BK397 HB; have BK396 := n0_; have BK397 := n1_; have HB := n2_; clear n0_ n1_ n2_
            have p398 : 0 ≤ (x5_1 : Int) := pD
            have q398 : x5_1 < (l0_3.length : Int) := pD
            obtain ⟨ad398, A398_3, c398_3, e398, hx398_0, hx398_1, hx398_2, hx398_3, hl398_3, hi398_3⟩ := at_T26 HR0_3.out x5_1 p398 q398
            have hw398_3 := hx398_3
            have hw398_2 := hx398_2
            have hw398_1 := hx398_1
            have hw398_0 := hx398_0
            cases e398
            replace hx398_0 := (HB.out.cell (World.block_lt_of_cell? w _ hx398_0)).trans hx398_0
            replace hx398_1 := (HB.out.cell (World.block_lt_of_cell? w _ hx398_1)).trans hx398_1
            replace hx398_2 := (HB.out.cell (World.block_lt_of_cell? w _ hx398_2)).trans hx398_2
            replace hx398_3 := (HB.out.cell (World.block_lt_of_cell? w _ hx398_3)).trans hx398_3
            have HR398_3 := Aside0.mk hi398_3
            have HC398_3 := Aside0.mk hl398_3
            clear hi398_3 hl398_3
            replace p398 := eq_true p398
            replace q398 := eq_true q398
            have p399 : 0 ≤ (x5_1 : Int) := pD
            have q399 : x5_1 < (l1_3.length : Int) := pD
            obtain ⟨ad399, A399_3, c399_3, e399, hx399_0, hx399_1, hx399_2, hx399_3, hl399_3, hi399_3⟩ := at_T26 HR1_3.out x5_1 p399 q399
            have hw399_3 := hx399_3
            have hw399_2 := hx399_2
            have hw399_1 := hx399_1
            have hw399_0 := hx399_0
            cases e399
            replace hx399_0 := (HB.out.cell (World.block_lt_of_cell? w _ hx399_0)).trans hx399_0
            replace hx399_1 := (HB.out.cell (World.block_lt_of_cell? w _ hx399_1)).trans hx399_1
            replace hx399_2 := (HB.out.cell (World.block_lt_of_cell? w _ hx399_2)).trans hx399_2
            replace hx399_3 := (HB.out.cell (World.block_lt_of_cell? w _ hx399_3)).trans hx399_3
            have HR399_3 := Aside0.mk hi399_3
            have HC399_3 := Aside0.mk hl399_3
            clear hi399_3 hl399_3
            replace p399 := eq_true p399
            replace q399 := eq_true q399
            refine start_ (n := 12) (S := fun w' => w'.cell? ⟨gb396, 0, none⟩ = some (.int .i64 a0_0) ∧ w'.cell? ⟨gb396, 1, none⟩ = some (.int .u64 a0_1) ∧ w'.cell? ⟨gb396, 2, none⟩ = some (.string a0_2) ∧ w'.cell? ⟨gb396, 3, none⟩ = some (.slice (some ad398) l0_3.length c0_3) ∧ w'.cell? ⟨gb397, 0, none⟩ = some (.int .i64 a1_0) ∧ w'.cell? ⟨gb397, 1, none⟩ = some (.int .u64 a1_1) ∧ w'.cell? ⟨gb397, 2, none⟩ = some (.string a1_2) ∧ w'.cell? ⟨gb397, 3, none⟩ = some (.slice (some ad399) l1_3.length c1_3) ∧ w'.cell? (ad398.add ((x5_1).toNat * 4)) = some (.int .i64 ((rd_T26 l0_3 x5_1).f0)) ∧ w'.cell? ⟨(ad398.add ((x5_1).toNat * 4)).block, (ad398.add ((x5_1).toNat * 4)).off + 1, none⟩ = some (.int .u64 ((rd_T26 l0_3 x5_1).f1)) ∧ w'.cell? ⟨(ad398.add ((x5_1).toNat * 4)).block, (ad398.add ((x5_1).toNat * 4)).off + 2, none⟩ = some (.string ((rd_T26 l0_3 x5_1).f2)) ∧ w'.cell? ⟨(ad398.add ((x5_1).toNat * 4)).block, (ad398.add ((x5_1).toNat * 4)).off + 3, none⟩ = some (.slice A398_3 ((rd_T26 l0_3 x5_1).f3).length c398_3) ∧ w'.cell? (ad399.add ((x5_1).toNat * 4)) = some (.int .i64 ((rd_T26 l1_3 x5_1).f0)) ∧ w'.cell? ⟨(ad399.add ((x5_1).toNat * 4)).block, (ad399.add ((x5_1).toNat * 4)).off + 1, none⟩ = some (.int .u64 ((rd_T26 l1_3 x5_1).f1)) ∧ w'.cell? ⟨(ad399.add ((x5_1).toNat * 4)).block, (ad399.add ((x5_1).toNat * 4)).off + 2, none⟩ = some (.string ((rd_T26 l1_3 x5_1).f2)) ∧ w'.cell? ⟨(ad399.add ((x5_1).toNat * 4)).block, (ad399.add ((x5_1).toNat * 4)).off + 3, none⟩ = some (.slice A399_3 ((rd_T26 l1_3 x5_1).f3).length c399_3)) (ds := []) #[false, false, false, false, false, false, false, false, false, false, false, false] (by kernel_rfl) rfl rfl ⟨cz0 BK396.out, cz1 BK396.out, cz2 BK396.out, cz3 BK396.out, cz0 BK397.out, cz1 BK397.out, cz2 BK397.out, cz3 BK397.out, ((HB.out.cell (World.block_lt_of_cell? w _ hw398_0)).trans hw398_0), ((HB.out.cell (World.block_lt_of_cell? w _ hw398_1)).trans hw398_1), ((HB.out.cell (World.block_lt_of_cell? w _ hw398_2)).trans hw398_2), ((HB.out.cell (World.block_lt_of_cell? w _ hw398_3)).trans hw398_3), ((HB.out.cell (World.block_lt_of_cell? w _ hw399_0)).trans hw399_0), ((HB.out.cell (World.block_lt_of_cell? w _ hw399_1)).trans hw399_1), ((HB.out.cell (World.block_lt_of_cell? w _ hw399_2)).trans hw399_2), ((HB.out.cell (World.block_lt_of_cell? w _ hw399_3)).trans hw399_3)⟩ (fun hHeld => ?_); refine with_tabW minstrelref07_Same.tab13 minstrelref07_Same.bits13 (fun HT_ HW_ => ?_)
            generalize wr.drew = w34 at BK396 BK397 HB HR398_3 HR399_3 hx398_0 hx398_1 hx398_2 hx398_3 hx399_0 hx399_1 hx399_2 hx399_3 hHeld ⊢
            refine pure_ (i := 0) (N := some 44) (v := ?_) (a' := ?_) #[true, false, false, false, false, false, false, false, false, false, false, false] rfl rfl (any_of HT_.out (by kernel_rfl)) (fun _ _ _ h => h) (Or.inl ⟨by kernel_rfl, ?_⟩) ?_ ?_
            rotate_left
            ·intro w'
             go_simp
             with_reducible rfl
            rotate_left
            ·exact pA
            refine pure_ (i := 2) (N := some 46) (v := ?_) (a' := ?_) #[true, false, true, false, false, false, false, false, false, false, false, false] rfl rfl (any_of HT_.out (by kernel_rfl)) (fun _ _ _ h => h) (Or.inl ⟨by kernel_rfl, ?_⟩) ?_ ?_
            rotate_left
            ·intro w'
             go_simp
             with_reducible rfl
            rotate_left
            ·exact pA
            refine pure_ (i := 5) (N := some 49) (v := ?_) (a' := ?_) #[true, false, true, false, false, true, false, false, false, false, false, false] rfl rfl (any_of HT_.out (by kernel_rfl)) (fun _ _ _ h => h) (Or.inl ⟨by kernel_rfl, ?_⟩) ?_ ?_
            rotate_left
            ·intro w'
             go_simp
             with_reducible rfl
            rotate_left
            ·exact pA
            refine pure_ (i := 7) (N := some 51) (v := ?_) (a' := ?_) #[true, false, true, false, false, true, false, true, false, false, false, false] rfl rfl (any_of HT_.out (by kernel_rfl)) (fun _ _ _ h => h) (Or.inl ⟨by kernel_rfl, ?_⟩) ?_ ?_
            rotate_left
            ·intro w'
             go_simp
             with_reducible rfl
            rotate_left
            ·exact pA
            refine take_ (i := 1) (N := some 45) (v := ?_) (a' := ?_) #[true, true, true, false, false, true, false, true, false, false, false, false] rfl rfl (take_ofW HT_.out HW_.out (by kernel_rfl)) (fun _ _ _ h => h) (Or.inl ⟨by kernel_rfl, ?_⟩) hHeld ?_ ?_
            rotate_left
            ·rintro w' ⟨s0, s1, s2, s3, s4, s5, s6, s7, s8, s9, s10, s11, s12, s13, s14, s15⟩
             go_simp
             with_reducible rfl
            rotate_left
            ·exact pA
            refine pure_ (i := 3) (N := some 47) (v := ?_) (a' := ?_) #[true, true, true, true, false, true, false, true, false, false, false, false] rfl rfl (any_of HT_.out (by kernel_rfl)) (fun _ _ _ h => h) (Or.inl ⟨by kernel_rfl, ?_⟩) ?_ ?_
            rotate_left
            ·intro w'
             go_simp
             with_reducible rfl
            rotate_left
            ·exact pA
            refine take_ (i := 4) (N := some 48) (v := ?_) (a' := ?_) #[true, true, true, true, true, true, false, true, false, false, false, false] rfl rfl (take_ofW HT_.out HW_.out (by kernel_rfl)) (fun _ _ _ h => h) (Or.inl ⟨by kernel_rfl, ?_⟩) hHeld ?_ ?_
            rotate_left
            ·rintro w' ⟨s0, s1, s2, s3, s4, s5, s6, s7, s8, s9, s10, s11, s12, s13, s14, s15⟩
             go_simp
             with_reducible rfl
            rotate_left
            ·exact pA
            refine take_ (i := 6) (N := some 50) (v := ?_) (a' := ?_) #[true, true, true, true, true, true, true, true, false, false, false, false] rfl rfl (take_ofW HT_.out HW_.out (by kernel_rfl)) (fun _ _ _ h => h) (Or.inl ⟨by kernel_rfl, ?_⟩) hHeld ?_ ?_
            rotate_left
            ·rintro w' ⟨s0, s1, s2, s3, s4, s5, s6, s7, s8, s9, s10, s11, s12, s13, s14, s15⟩
             go_simp
             with_reducible rfl
            rotate_left
            ·exact pA
            refine pure_ (i := 8) (N := some 52) (v := ?_) (a' := ?_) #[true, true, true, true, true, true, true, true, true, false, false, false] rfl rfl (any_of HT_.out (by kernel_rfl)) (fun _ _ _ h => h) (Or.inl ⟨by kernel_rfl, ?_⟩) ?_ ?_
            rotate_left
            ·intro w'
             go_simp
             with_reducible rfl
            rotate_left
            ·exact pA
            refine take_ (i := 9) (N := some 53) (v := ?_) (a' := ?_) #[true, true, true, true, true, true, true, true, true, true, false, false] rfl rfl (take_ofW HT_.out HW_.out (by kernel_rfl)) (fun _ _ _ h => h) (Or.inl ⟨by kernel_rfl, ?_⟩) hHeld ?_ ?_
            rotate_left
            ·rintro w' ⟨s0, s1, s2, s3, s4, s5, s6, s7, s8, s9, s10, s11, s12, s13, s14, s15⟩
             go_simp
             with_reducible rfl
            rotate_left
            ·exact pA
            refine one_ (i := 10) (N := some 54) #[true, true, true, true, true, true, true, true, true, true, true, false] rfl rfl (one_of HT_.out (by kernel_rfl)) (by decide) (fun K hK => ?_)
            refine goes_ Tryd.func19 (by kernel_rfl) rfl #[.agg #[.int .i64 ((rd_T26 l0_3 x5_1).f0), .int .u64 ((rd_T26 l0_3 x5_1).f1), .string ((rd_T26 l0_3 x5_1).f2), .slice A398_3 ((rd_T26 l0_3 x5_1).f3).length c398_3], .agg #[.int .i64 ((rd_T26 l1_3 x5_1).f0), .int .u64 ((rd_T26 l1_3 x5_1).f1), .string ((rd_T26 l1_3 x5_1).f2), .slice A399_3 ((rd_T26 l1_3 x5_1).f3).length c399_3]] (by rfl) rfl rfl pM ?_
            with_reducible refine (ih k1 (by have := HK1.out; omega) ((rd_T26 l0_3 x5_1).f0) ((rd_T26 l0_3 x5_1).f1) ((rd_T26 l0_3 x5_1).f2) _ _ ((rd_T26 l0_3 x5_1).f3) ((rd_T26 l1_3 x5_1).f0) ((rd_T26 l1_3 x5_1).f1) ((rd_T26 l1_3 x5_1).f2) _ _ ((rd_T26 l1_3 x5_1).f3) false _ ?side1 ?side2 ?side3 ?side4 A26.out).mono ?_
            (case side1 => exact pC (Kd.C_below HR398_3.out HB.out))
            (case side2 => exact HC398_3.out)
            (case side3 => exact pC (Kd.C_below HR399_3.out HB.out))
            (case side4 => exact HC399_3.out)
            rintro e w35 ⟨rfl, hb⟩
            refine ⟨_, rfl, ?_⟩
            have n0_ := Aside0.mk (pkb BK396.out hb)
            have n1_ := Aside0.mk (pkb BK397.out hb)
            have n2_ := Aside0.mk (below_step pB hb)
            clear BK396 BK397 HB; have BK396 := n0_; have BK397 := n1_; have HB := n2_; clear n0_ n1_ n2_; (try clear hb); (try clear hb2); (try clear hk); (try clear hi)
            refine hK.out _ _ ⟨cz0 BK396.out, cz1 BK396.out, cz2 BK396.out, cz3 BK396.out, cz0 BK397.out, cz1 BK397.out, cz2 BK397.out, cz3 BK397.out, ((HB.out.cell (World.block_lt_of_cell? w _ hw398_0)).trans hw398_0), ((HB.out.cell (World.block_lt_of_cell? w _ hw398_1)).trans hw398_1), ((HB.out.cell (World.block_lt_of_cell? w _ hw398_2)).trans hw398_2), ((HB.out.cell (World.block_lt_of_cell? w _ hw398_3)).trans hw398_3), ((HB.out.cell (World.block_lt_of_cell? w _ hw399_0)).trans hw399_0), ((HB.out.cell (World.block_lt_of_cell? w _ hw399_1)).trans hw399_1), ((HB.out.cell (World.block_lt_of_cell? w _ hw399_2)).trans hw399_2), ((HB.out.cell (World.block_lt_of_cell? w _ hw399_3)).trans hw399_3)⟩ (fun hHeld => ?_)
            clear hK K
            refine norm_ (a' := ?_) ?_ ?_
            rotate_left
            ·show Act.put _ (some 54) _ = _
             exact pA
            refine pure_ (i := 11) (N := some 55) (v := ?_) (a' := ?_) #[true, true, true, true, true, true, true, true, true, true, true, true] rfl rfl (any_of HT_.out (by kernel_rfl)) (fun _ _ _ h => h) (Or.inl ⟨by kernel_rfl, ?_⟩) ?_ ?_
            rotate_left
            ·intro w'
             go_simp
             with_reducible rfl
            rotate_left
            ·exact pA
            refine done_ (done_of HT_.out (by kernel_rfl)) ?_
            try go_wp2
            go_ret
            exact ⟨pE, pB⟩
          ·rw [if_neg c25] at H
           exact absurd H (by simp)
         ·rw [if_neg c24] at H
          exact absurd H (by simp)
        ·rw [if_neg c23] at H
         have c23b0 : decide (x5_1 < (l0_3.length : Int)) = false := decide_eq_false c23
         clear c23
         obtain rfl := Option.some.inj H
         have hnb36 := NB396_397.out
         have hnc36 := NB397_396.out
         obtain ⟨hcz37_0, hcz37_1, hcz37_2, hcz37_3, hfz37_0, hfz37_1, hfz37_2, hfz37_3⟩ := cf4 BK396.out
         go_wp2
         go_ret
         exact ⟨pE, pB⟩
     ·rw [if_neg c17] at H
      have c17b0 : ((l0_3.length : Int) == (l1_3.length : Int)) = false := beq_eq_false_iff_ne.mpr c17
      have c17b1 : ((l0_3.length : Int) != (l1_3.length : Int)) = true := bne_iff_ne.mpr c17
      have c17b2 : (l0_3.length == l1_3.length) = false := by first | simpa using c17 | (simp at c17 ⊢; omega)
      obtain rfl := Option.some.inj H
      go_enter Tryd.func19, Tryd.ntmps19
      go_wp2_with (first | ((with_reducible refine gate_dst (N := 2) rfl ?_); refine box_event ?hg (N := 2) ?hd (cs := #[.int .i64 a0_0, .int .u64 a0_1, .string a0_2, .slice A0_3 l0_3.length c0_3]) (t := 26) ?hr ?_; (case hd => rfl); (case hg => rfl); (case hr => first | (go_simp; done) | (go_simp; rfl)); intro gb396 hg w38 hbox hb; have n0_ := Aside0.mk (below_step pB hb); have n1_ := Aside0.mk (hbox); have n2_ := Aside0.mk ((by rw [hg]; exact (below_size pB) : w.heap.size ≤ gb396)); have n3_ := Aside0.mk ((by rw [hg]; exact (below_size pB) : w.heap.size ≤ gb396)); clear HB; have HB := n0_; have BK396 := n1_; have GW396 := n2_; have GE396 := n3_; clear n0_ n1_ n2_ n3_; clear hb hbox hg) | ((with_reducible refine gate_dst (N := 3) rfl ?_); refine box_event ?hg (N := 3) ?hd (cs := #[.int .i64 a1_0, .int .u64 a1_1, .string a1_2, .slice A1_3 l1_3.length c1_3]) (t := 26) ?hr ?_; (case hd => rfl); (case hg => rfl); (case hr => first | (go_simp; done) | (go_simp; rfl)); intro gb397 hg w39 hbox hb; have n0_ := Aside0.mk (pkb BK396.out hb); have n1_ := Aside0.mk (below_step pB hb); have n2_ := Aside0.mk (hbox); have n3_ := Aside0.mk ((by rw [hg]; exact (below_size pB) : w.heap.size ≤ gb397)); have n4_ := Aside0.mk ((by rw [hg]; exact (below_size pB) : w.heap.size ≤ gb397)); have n5_ := Aside0.mk ((by rw [hg]; exact Nat.ne_of_lt (pkl BK396.out) : gb396 ≠ gb397)); have n6_ := Aside0.mk ((by rw [hg]; exact Nat.ne_of_gt (pkl BK396.out) : gb397 ≠ gb396)); clear BK396; clear HB; have BK396 := n0_; have HB := n1_; have BK397 := n2_; have GW397 := n3_; have GE397 := n4_; have NB396_397 := n5_; have NB397_396 := n6_; clear n0_ n1_ n2_ n3_ n4_ n5_ n6_; clear hb hbox hg; have hnb40 := NB396_397.out; have hnc40 := NB397_396.out; obtain ⟨hcz41_0, hcz41_1, hcz41_2, hcz41_3, hfz41_0, hfz41_1, hfz41_2, hfz41_3⟩ := cf4 BK396.out; obtain ⟨hcz42_0, hcz42_1, hcz42_2, hcz42_3, hfz42_0, hfz42_1, hfz42_2, hfz42_3⟩ := cf4 BK397.out))
      go_ret
      exact ⟨pE, pB⟩
    ·rw [if_neg c16] at H
     have c16b0 : (a0_0 == 2) = false := beq_eq_false_iff_ne.mpr c16
     have c16b1 : (a0_0 != 2) = true := bne_iff_ne.mpr c16
     obtain rfl := Option.some.inj H
     go_enter Tryd.func19, Tryd.ntmps19
     go_wp2_with (first | ((with_reducible refine gate_dst (N := 2) rfl ?_); refine box_event ?hg (N := 2) ?hd (cs := #[.int .i64 a0_0, .int .u64 a0_1, .string a0_2, .slice A0_3 l0_3.length c0_3]) (t := 26) ?hr ?_; (case hd => rfl); (case hg => rfl); (case hr => first | (go_simp; done) | (go_simp; rfl)); intro gb396 hg w43 hbox hb; have n0_ := Aside0.mk (below_step pB hb); have n1_ := Aside0.mk (hbox); have n2_ := Aside0.mk ((by rw [hg]; exact (below_size pB) : w.heap.size ≤ gb396)); have n3_ := Aside0.mk ((by rw [hg]; exact (below_size pB) : w.heap.size ≤ gb396)); clear HB; have HB := n0_; have BK396 := n1_; have GW396 := n2_; have GE396 := n3_; clear n0_ n1_ n2_ n3_; clear hb hbox hg) | ((with_reducible refine gate_dst (N := 3) rfl ?_); refine box_event ?hg (N := 3) ?hd (cs := #[.int .i64 a1_0, .int .u64 a1_1, .string a1_2, .slice A1_3 l1_3.length c1_3]) (t := 26) ?hr ?_; (case hd => rfl); (case hg => rfl); (case hr => first | (go_simp; done) | (go_simp; rfl)); intro gb397 hg w44 hbox hb; have n0_ := Aside0.mk (pkb BK396.out hb); have n1_ := Aside0.mk (below_step pB hb); have n2_ := Aside0.mk (hbox); have n3_ := Aside0.mk ((by rw [hg]; exact (below_size pB) : w.heap.size ≤ gb397)); have n4_ := Aside0.mk ((by rw [hg]; exact (below_size pB) : w.heap.size ≤ gb397)); have n5_ := Aside0.mk ((by rw [hg]; exact Nat.ne_of_lt (pkl BK396.out) : gb396 ≠ gb397)); have n6_ := Aside0.mk ((by rw [hg]; exact Nat.ne_of_gt (pkl BK396.out) : gb397 ≠ gb396)); clear BK396; clear HB; have BK396 := n0_; have HB := n1_; have BK397 := n2_; have GW397 := n3_; have GE397 := n4_; have NB396_397 := n5_; have NB397_396 := n6_; clear n0_ n1_ n2_ n3_ n4_ n5_ n6_; clear hb hbox hg; have hnb45 := NB396_397.out; have hnc45 := NB397_396.out; obtain ⟨hcz46_0, hcz46_1, hcz46_2, hcz46_3, hfz46_0, hfz46_1, hfz46_2, hfz46_3⟩ := cf4 BK396.out; obtain ⟨hcz47_0, hcz47_1, hcz47_2, hcz47_3, hfz47_0, hfz47_1, hfz47_2, hfz47_3⟩ := cf4 BK397.out))
     go_ret
     exact ⟨pE, pB⟩
 ·rw [if_neg c3] at H
  have c3b0 : (a0_0 == a1_0) = false := beq_eq_false_iff_ne.mpr c3
  have c3b1 : (a0_0 != a1_0) = true := bne_iff_ne.mpr c3
  obtain rfl := Option.some.inj H
  go_enter Tryd.func19, Tryd.ntmps19
  go_wp2_with (first | ((with_reducible refine gate_dst (N := 2) rfl ?_); refine box_event ?hg (N := 2) ?hd (cs := #[.int .i64 a0_0, .int .u64 a0_1, .string a0_2, .slice A0_3 l0_3.length c0_3]) (t := 26) ?hr ?_; (case hd => rfl); (case hg => rfl); (case hr => first | (go_simp; done) | (go_simp; rfl)); intro gb396 hg w48 hbox hb; have n0_ := Aside0.mk (below_step pB hb); have n1_ := Aside0.mk (hbox); have n2_ := Aside0.mk ((by rw [hg]; exact (below_size pB) : w.heap.size ≤ gb396)); have n3_ := Aside0.mk ((by rw [hg]; exact (below_size pB) : w.heap.size ≤ gb396)); clear HB; have HB := n0_; have BK396 := n1_; have GW396 := n2_; have GE396 := n3_; clear n0_ n1_ n2_ n3_; clear hb hbox hg) | ((with_reducible refine gate_dst (N := 3) rfl ?_); refine box_event ?hg (N := 3) ?hd (cs := #[.int .i64 a1_0, .int .u64 a1_1, .string a1_2, .slice A1_3 l1_3.length c1_3]) (t := 26) ?hr ?_; (case hd => rfl); (case hg => rfl); (case hr => first | (go_simp; done) | (go_simp; rfl)); intro gb397 hg w49 hbox hb; have n0_ := Aside0.mk (pkb BK396.out hb); have n1_ := Aside0.mk (below_step pB hb); have n2_ := Aside0.mk (hbox); have n3_ := Aside0.mk ((by rw [hg]; exact (below_size pB) : w.heap.size ≤ gb397)); have n4_ := Aside0.mk ((by rw [hg]; exact (below_size pB) : w.heap.size ≤ gb397)); have n5_ := Aside0.mk ((by rw [hg]; exact Nat.ne_of_lt (pkl BK396.out) : gb396 ≠ gb397)); have n6_ := Aside0.mk ((by rw [hg]; exact Nat.ne_of_gt (pkl BK396.out) : gb397 ≠ gb396)); clear BK396; clear HB; have BK396 := n0_; have HB := n1_; have BK397 := n2_; have GW397 := n3_; have GE397 := n4_; have NB396_397 := n5_; have NB397_396 := n6_; clear n0_ n1_ n2_ n3_ n4_ n5_ n6_; clear hb hbox hg; have hnb50 := NB396_397.out; have hnc50 := NB397_396.out; obtain ⟨hcz51_0, hcz51_1, hcz51_2, hcz51_3, hfz51_0, hfz51_1, hfz51_2, hfz51_3⟩ := cf4 BK396.out; obtain ⟨hcz52_0, hcz52_1, hcz52_2, hcz52_3, hfz52_0, hfz52_1, hfz52_2, hfz52_3⟩ := cf4 BK397.out))
  go_ret
  exact ⟨pE, pB⟩
end Go.Proofs.YtlkaffbgekbcfaaDoor.Pr
end
section
namespace Go.Proofs.YtlkaffbgekbcfaaDoor.Pr
open Go.RowKit Go.Proofs.YtlkaffbgekbcfaaDoorW.PrintWords Go.Proofs.YtlkaffbgekbcfaaDoorW.PrintLast Go.Proofs.YtlkaffbgekbcfaaDoorW.PrintMore
attribute [local go_sem] max2_int min2_int max_two min_two max_three min_three max_four min_four
set_option linter.unusedVariables false
set_option linter.unusedSimpArgs false
mutual
def minstrelref19_Same.j0 : Nat → Bool → Int → Int → ByteArray → List Int → Int → Int → ByteArray → List Int → Option (Bool)
 | 0, _, _, _, _, _, _, _, _, _ => none
 | k + 1, x33, x402000, x402001, x402002, x402003, x403000, x403001, x403002, x403003 => if x33 = true then (some false) else (minstrelref19_Same.l0 k 0 x402000 x402001 x402002 x402003 x403000 x403001 x403002 x403003)
def minstrelref19_Same.l0 : Nat → Int → Int → Int → ByteArray → List Int → Int → Int → ByteArray → List Int → Option (Bool)
 | 0, _, _, _, _, _, _, _, _, _ => none
 | k + 1, x5, x402000, x402001, x402002, x402003, x403000, x403001, x403002, x403003 => if x5 < (x402003.length : Int) then (if 0 ≤ x5 then (if x5 < (x403003.length : Int) then (if (rd x402003 x5) = (rd x403003 x5) then (minstrelref19_Same.l0 k (wrap64 (x5 + 1)) x402000 x402001 x402002 x402003 x403000 x403001 x403002 x403003) else (some false)) else (none)) else (none)) else (some true)
end
def minstrelref19_Same.f (k : Nat) (a0_0 : Int) (a0_1 : Int) (a0_2 : ByteArray) (l0_3 : List Int) (a1_0 : Int) (a1_1 : Int) (a1_2 : ByteArray) (l1_3 : List Int) : Option (Bool) := if a0_0 = a1_0 then (if a0_1 = a1_1 then (if a0_2.toList = a1_2.toList then (minstrelref19_Same.j0 k ((l0_3.length : Int) != (l1_3.length : Int)) a0_0 a0_1 a0_2 l0_3 a1_0 a1_1 a1_2 l1_3) else (minstrelref19_Same.j0 k true a0_0 a0_1 a0_2 l0_3 a1_0 a1_1 a1_2 l1_3)) else (minstrelref19_Same.j0 k true a0_0 a0_1 a0_2 l0_3 a1_0 a1_1 a1_2 l1_3)) else (minstrelref19_Same.j0 k true a0_0 a0_1 a0_2 l0_3 a1_0 a1_1 a1_2 l1_3)
theorem minstrelref19_Same.mono_l : ∀ k, (∀ y0 y1 y2 y3 y4 y5 y6 y7 y8, LeO (minstrelref19_Same.j0 k y0 y1 y2 y3 y4 y5 y6 y7 y8) (minstrelref19_Same.j0 (k + 1) y0 y1 y2 y3 y4 y5 y6 y7 y8)) ∧ (∀ y0 y1 y2 y3 y4 y5 y6 y7 y8, LeO (minstrelref19_Same.l0 k y0 y1 y2 y3 y4 y5 y6 y7 y8) (minstrelref19_Same.l0 (k + 1) y0 y1 y2 y3 y4 y5 y6 y7 y8))
 | 0 => ⟨fun _ _ _ _ _ _ _ _ _ r h => by simp [minstrelref19_Same.j0] at h, fun _ _ _ _ _ _ _ _ _ r h => by simp [minstrelref19_Same.l0] at h⟩
 | k + 1 => by
  obtain ⟨ih0, ih1⟩ := minstrelref19_Same.mono_l k
  refine ⟨?_, ?_⟩
  ·intro y0 y1 y2 y3 y4 y5 y6 y7 y8
   unfold minstrelref19_Same.j0
   repeat' first
   | (with_reducible exact ih0 _ _ _ _ _ _ _ _ _)
   | (with_reducible exact ih1 _ _ _ _ _ _ _ _ _)
   | (with_reducible exact LeO.refl _)
   | (with_reducible exact LeO.none _)
   | (with_reducible refine LeO.ite ?_ ?_)
   | (with_reducible refine LeO.bind ?_ (fun _ => ?_))
   | exact ih0 _ _ _ _ _ _ _ _ _
   | exact ih1 _ _ _ _ _ _ _ _ _
   | exact LeO.none _
   | refine LeO.ite ?_ ?_
   | refine LeO.bind ?_ (fun _ => ?_)
  ·intro y0 y1 y2 y3 y4 y5 y6 y7 y8
   unfold minstrelref19_Same.l0
   repeat' first
   | (with_reducible exact ih0 _ _ _ _ _ _ _ _ _)
   | (with_reducible exact ih1 _ _ _ _ _ _ _ _ _)
   | (with_reducible exact LeO.refl _)
   | (with_reducible exact LeO.none _)
   | (with_reducible refine LeO.ite ?_ ?_)
   | (with_reducible refine LeO.bind ?_ (fun _ => ?_))
   | exact ih0 _ _ _ _ _ _ _ _ _
   | exact ih1 _ _ _ _ _ _ _ _ _
   | exact LeO.none _
   | refine LeO.ite ?_ ?_
   | refine LeO.bind ?_ (fun _ => ?_)
theorem minstrelref19_Same.mono : ∀ a0 a1 a2 a3 a4 a5 a6 a7 k, LeO (minstrelref19_Same.f k a0 a1 a2 a3 a4 a5 a6 a7) (minstrelref19_Same.f (k + 1) a0 a1 a2 a3 a4 a5 a6 a7) := by
 intro a0 a1 a2 a3 a4 a5 a6 a7 k
 obtain ⟨ih0, ih1⟩ := minstrelref19_Same.mono_l k
 unfold minstrelref19_Same.f
 repeat' first
   | (with_reducible exact ih0 _ _ _ _ _ _ _ _ _)
   | (with_reducible exact ih1 _ _ _ _ _ _ _ _ _)
   | (with_reducible exact LeO.refl _)
   | (with_reducible exact LeO.none _)
   | (with_reducible refine LeO.ite ?_ ?_)
   | (with_reducible refine LeO.bind ?_ (fun _ => ?_))
   | exact ih0 _ _ _ _ _ _ _ _ _
   | exact ih1 _ _ _ _ _ _ _ _ _
   | exact LeO.none _
   | refine LeO.ite ?_ ?_
   | refine LeO.bind ?_ (fun _ => ?_)
set_option maxHeartbeats 8000000 in
set_option maxRecDepth 100000 in
theorem minstrelref19_Same.calls (k : Nat) (a0_0 : Int) (a0_1 : Int) (a0_2 : ByteArray) (A0_3 : Option Addr) (c0_3 : Nat) (l0_3 : List Int) (a1_0 : Int) (a1_1 : Int) (a1_2 : ByteArray) (A1_3 : Option Addr) (c1_3 : Nat) (l1_3 : List Int) (r : Bool) (w : World) (hr0_3 : Kd.C (Kd.int .i64) w A0_3 l0_3.length l0_3) (hc0_3 : l0_3.length ≤ c0_3) (hr1_3 : Kd.C (Kd.int .i64) w A1_3 l1_3.length l1_3) (hc1_3 : l1_3.length ≤ c1_3) (h : minstrelref19_Same.f k a0_0 a0_1 a0_2 l0_3 a1_0 a1_1 a1_2 l1_3 = some r) :
  Calls Tryd.prog 23 #[.agg #[.int .u64 a0_0, .int .i64 a0_1, .string a0_2, .slice A0_3 l0_3.length c0_3], .agg #[.int .u64 a1_0, .int .i64 a1_1, .string a1_2, .slice A1_3 l1_3.length c1_3]] w fun e w' => e = .returned (.bool r) ∧ Below w.heap.size w w' := by
 have hu46 := Tryd.underlying46
 have HR0_3 := Aside0.mk hr0_3
 have HC0_3 := Aside0.mk hc0_3
 clear hr0_3 hc0_3
 have HR1_3 := Aside0.mk hr1_3
 have HC1_3 := Aside0.mk hc1_3
 clear hr1_3 hc1_3
 have HB := Aside0.mk (Below.refl w.heap.size w)
 have H : (if a0_0 = a1_0 then (if a0_1 = a1_1 then (if a0_2.toList = a1_2.toList then (minstrelref19_Same.j0 k ((l0_3.length : Int) != (l1_3.length : Int)) a0_0 a0_1 a0_2 l0_3 a1_0 a1_1 a1_2 l1_3) else (minstrelref19_Same.j0 k true a0_0 a0_1 a0_2 l0_3 a1_0 a1_1 a1_2 l1_3)) else (minstrelref19_Same.j0 k true a0_0 a0_1 a0_2 l0_3 a1_0 a1_1 a1_2 l1_3)) else (minstrelref19_Same.j0 k true a0_0 a0_1 a0_2 l0_3 a1_0 a1_1 a1_2 l1_3)) = some r := h
 clear h
 have HC3 := Aside0.mk H
 clear H
 go_enter Tryd.func23, Tryd.ntmps23
 go_upto_region 1 with (first | ((with_reducible refine gate_dst (N := 2) rfl ?_); (try (refine gate_guard (by rfl) ?_; dsimp only)); refine box_event ?hg (N := 2) ?hd (cs := #[.int .u64 a0_0, .int .i64 a0_1, .string a0_2, .slice A0_3 l0_3.length c0_3]) (t := 46) ?hr ?_; (case hd => rfl); (case hg => rfl); (case hr => first | (go_simp; done) | (go_simp; rfl)); intro gb401 hg w4 hbox hb; have n0_ := Aside0.mk (below_step pB hb); have n1_ := Aside0.mk (hbox); have n2_ := Aside0.mk ((by rw [hg]; exact (below_size pB) : w.heap.size ≤ gb401)); have n3_ := Aside0.mk ((by rw [hg]; exact (below_size pB) : w.heap.size ≤ gb401)); clear HB; have HB := n0_; have BK401 := n1_; have GW401 := n2_; have GE401 := n3_; clear n0_ n1_ n2_ n3_; clear hb hbox hg) | ((with_reducible refine gate_dst (N := 3) rfl ?_); (try (refine gate_guard (by rfl) ?_; dsimp only)); refine box_event ?hg (N := 3) ?hd (cs := #[.int .u64 a1_0, .int .i64 a1_1, .string a1_2, .slice A1_3 l1_3.length c1_3]) (t := 46) ?hr ?_; (case hd => rfl); (case hg => rfl); (case hr => first | (go_simp; done) | (go_simp; rfl)); intro gb402 hg w5 hbox hb; have n0_ := Aside0.mk (pkb BK401.out hb); have n1_ := Aside0.mk (below_step pB hb); have n2_ := Aside0.mk (hbox); have n3_ := Aside0.mk ((by rw [hg]; exact (below_size pB) : w.heap.size ≤ gb402)); have n4_ := Aside0.mk ((by rw [hg]; exact (below_size pB) : w.heap.size ≤ gb402)); have n5_ := Aside0.mk ((by rw [hg]; exact Nat.ne_of_lt (pkl BK401.out) : gb401 ≠ gb402)); have n6_ := Aside0.mk ((by rw [hg]; exact Nat.ne_of_gt (pkl BK401.out) : gb402 ≠ gb401)); clear BK401; clear HB; have BK401 := n0_; have HB := n1_; have BK402 := n2_; have GW402 := n3_; have GE402 := n4_; have NB401_402 := n5_; have NB402_401 := n6_; clear n0_ n1_ n2_ n3_ n4_ n5_ n6_; clear hb hbox hg))
 repeat (go_quiet (first | ((with_reducible refine gate_dst (N := 2) rfl ?_); (try (refine gate_guard (by rfl) ?_; dsimp only)); refine box_event ?hg (N := 2) ?hd (cs := #[.int .u64 a0_0, .int .i64 a0_1, .string a0_2, .slice A0_3 l0_3.length c0_3]) (t := 46) ?hr ?_; (case hd => rfl); (case hg => rfl); (case hr => first | (go_simp; done) | (go_simp; rfl)); intro gb401 hg w4 hbox hb; have n0_ := Aside0.mk (below_step pB hb); have n1_ := Aside0.mk (hbox); have n2_ := Aside0.mk ((by rw [hg]; exact (below_size pB) : w.heap.size ≤ gb401)); have n3_ := Aside0.mk ((by rw [hg]; exact (below_size pB) : w.heap.size ≤ gb401)); clear HB; have HB := n0_; have BK401 := n1_; have GW401 := n2_; have GE401 := n3_; clear n0_ n1_ n2_ n3_; clear hb hbox hg) | ((with_reducible refine gate_dst (N := 3) rfl ?_); (try (refine gate_guard (by rfl) ?_; dsimp only)); refine box_event ?hg (N := 3) ?hd (cs := #[.int .u64 a1_0, .int .i64 a1_1, .string a1_2, .slice A1_3 l1_3.length c1_3]) (t := 46) ?hr ?_; (case hd => rfl); (case hg => rfl); (case hr => first | (go_simp; done) | (go_simp; rfl)); intro gb402 hg w5 hbox hb; have n0_ := Aside0.mk (pkb BK401.out hb); have n1_ := Aside0.mk (below_step pB hb); have n2_ := Aside0.mk (hbox); have n3_ := Aside0.mk ((by rw [hg]; exact (below_size pB) : w.heap.size ≤ gb402)); have n4_ := Aside0.mk ((by rw [hg]; exact (below_size pB) : w.heap.size ≤ gb402)); have n5_ := Aside0.mk ((by rw [hg]; exact Nat.ne_of_lt (pkl BK401.out) : gb401 ≠ gb402)); have n6_ := Aside0.mk ((by rw [hg]; exact Nat.ne_of_gt (pkl BK401.out) : gb402 ≠ gb401)); clear BK401; clear HB; have BK401 := n0_; have HB := n1_; have BK402 := n2_; have GW402 := n3_; have GE402 := n4_; have NB401_402 := n5_; have NB402_401 := n6_; clear n0_ n1_ n2_ n3_ n4_ n5_ n6_; clear hb hbox hg)); go_upto_region 1 with (first | ((with_reducible refine gate_dst (N := 2) rfl ?_); (try (refine gate_guard (by rfl) ?_; dsimp only)); refine box_event ?hg (N := 2) ?hd (cs := #[.int .u64 a0_0, .int .i64 a0_1, .string a0_2, .slice A0_3 l0_3.length c0_3]) (t := 46) ?hr ?_; (case hd => rfl); (case hg => rfl); (case hr => first | (go_simp; done) | (go_simp; rfl)); intro gb401 hg w4 hbox hb; have n0_ := Aside0.mk (below_step pB hb); have n1_ := Aside0.mk (hbox); have n2_ := Aside0.mk ((by rw [hg]; exact (below_size pB) : w.heap.size ≤ gb401)); have n3_ := Aside0.mk ((by rw [hg]; exact (below_size pB) : w.heap.size ≤ gb401)); clear HB; have HB := n0_; have BK401 := n1_; have GW401 := n2_; have GE401 := n3_; clear n0_ n1_ n2_ n3_; clear hb hbox hg) | ((with_reducible refine gate_dst (N := 3) rfl ?_); (try (refine gate_guard (by rfl) ?_; dsimp only)); refine box_event ?hg (N := 3) ?hd (cs := #[.int .u64 a1_0, .int .i64 a1_1, .string a1_2, .slice A1_3 l1_3.length c1_3]) (t := 46) ?hr ?_; (case hd => rfl); (case hg => rfl); (case hr => first | (go_simp; done) | (go_simp; rfl)); intro gb402 hg w5 hbox hb; have n0_ := Aside0.mk (pkb BK401.out hb); have n1_ := Aside0.mk (below_step pB hb); have n2_ := Aside0.mk (hbox); have n3_ := Aside0.mk ((by rw [hg]; exact (below_size pB) : w.heap.size ≤ gb402)); have n4_ := Aside0.mk ((by rw [hg]; exact (below_size pB) : w.heap.size ≤ gb402)); have n5_ := Aside0.mk ((by rw [hg]; exact Nat.ne_of_lt (pkl BK401.out) : gb401 ≠ gb402)); have n6_ := Aside0.mk ((by rw [hg]; exact Nat.ne_of_gt (pkl BK401.out) : gb402 ≠ gb401)); clear BK401; clear HB; have BK401 := n0_; have HB := n1_; have BK402 := n2_; have GW402 := n3_; have GE402 := n4_; have NB401_402 := n5_; have NB402_401 := n6_; clear n0_ n1_ n2_ n3_ n4_ n5_ n6_; clear hb hbox hg)))
 (try simp only [Act.put, List.setIfInBounds_toArray, List.set_cons_zero, List.set_cons_succ])
 go_cut [33] (fun v33 wc => ∃ (kq : Nat) (x33_2 : Bool), v33 = .bool x33_2 ∧ Aside0 (minstrelref19_Same.j0 kq x33_2 a0_0 a0_1 a0_2 l0_3 a1_0 a1_1 a1_2 l1_3 = some r) ∧ Aside0 (kq ≤ k) ∧ Aside0 (wc.heap[gb401]? = some (.cells #[.int .u64 a0_0, .int .i64 a0_1, .string a0_2, (.slice A0_3 l0_3.length c0_3)] 46 (0, 0))) ∧ Aside0 (wc.heap[gb402]? = some (.cells #[.int .u64 a1_0, .int .i64 a1_1, .string a1_2, (.slice A1_3 l1_3.length c1_3)] 46 (0, 0))) ∧ Aside0 (Below w.heap.size w wc))
 case first =>
  have H := HC3.out
  clear HC3
  by_cases c6 : a0_0 = a1_0
  ·rw [if_pos c6] at H
   have c6b0 : (a0_0 == a1_0) = true := beq_iff_eq.mpr c6
   have c6b1 : (a0_0 != a1_0) = false := bne_eq_false_iff_eq.mpr c6
   clear c6
   (first | rw [c6b0] | (simp only [i64_w, i32_w]; rw [c6b0]) | rw [c6b1] | (simp only [i64_w, i32_w]; rw [c6b1]) | skip)
   by_cases c7 : a0_1 = a1_1
   ·rw [if_pos c7] at H
    have c7b0 : (a0_1 == a1_1) = true := beq_iff_eq.mpr c7
    have c7b1 : (a0_1 != a1_1) = false := bne_eq_false_iff_eq.mpr c7
    clear c7
    by_cases c8 : a0_2.toList = a1_2.toList
    ·rw [if_pos c8] at H
     have c8b0 : (a0_2.toList == a1_2.toList) = true := beq_iff_eq.mpr c8
     have c8b1 : (a0_2.toList != a1_2.toList) = false := bne_eq_false_iff_eq.mpr c8
     clear c8
     have H' := Aside0.mk H
     clear H
     have hnb9 := NB401_402.out
     have hnc9 := NB402_401.out
     obtain ⟨hcz10_0, hcz10_1, hcz10_2, hcz10_3, hfz10_0, hfz10_1, hfz10_2, hfz10_3⟩ := cf4 BK401.out
     obtain ⟨hcz11_0, hcz11_1, hcz11_2, hcz11_3, hfz11_0, hfz11_1, hfz11_2, hfz11_3⟩ := cf4 BK402.out
     go_wp2
     repeat (go_quiet (fail); try go_wp2)
     go_meet
     case rel => exact ⟨_, (((l0_3.length : Int) != (l1_3.length : Int))), (by first | rfl | (simp; done) | (simp [*]; done)), H', ⟨by first | omega | exact Nat.le_refl _⟩, ⟨by (with_reducible repeat (first | refine blk_drewN ?_ _ | refine blk_drew ?_ | refine blk_alloc ?_ _)); exact BK401.out⟩, ⟨by (with_reducible repeat (first | refine blk_drewN ?_ _ | refine blk_drew ?_ | refine blk_alloc ?_ _)); exact BK402.out⟩, ⟨pB⟩⟩
    ·rw [if_neg c8] at H
     have c8b0 : (a0_2.toList == a1_2.toList) = false := beq_eq_false_iff_ne.mpr c8
     have c8b1 : (a0_2.toList != a1_2.toList) = true := bne_iff_ne.mpr c8
     have H' := Aside0.mk H
     clear H
     have hnb12 := NB401_402.out
     have hnc12 := NB402_401.out
     obtain ⟨hcz13_0, hcz13_1, hcz13_2, hcz13_3, hfz13_0, hfz13_1, hfz13_2, hfz13_3⟩ := cf4 BK401.out
     obtain ⟨hcz14_0, hcz14_1, hcz14_2, hcz14_3, hfz14_0, hfz14_1, hfz14_2, hfz14_3⟩ := cf4 BK402.out
     go_wp2
     repeat (go_quiet (fail); try go_wp2)
     go_meet
     case rel => exact ⟨_, (true), (by first | rfl | (simp; done) | (simp [*]; done)), H', ⟨by first | omega | exact Nat.le_refl _⟩, ⟨by (with_reducible repeat (first | refine blk_drewN ?_ _ | refine blk_drew ?_ | refine blk_alloc ?_ _)); exact BK401.out⟩, ⟨by (with_reducible repeat (first | refine blk_drewN ?_ _ | refine blk_drew ?_ | refine blk_alloc ?_ _)); exact BK402.out⟩, ⟨pB⟩⟩
   ·rw [if_neg c7] at H
    have c7b0 : (a0_1 == a1_1) = false := beq_eq_false_iff_ne.mpr c7
    have c7b1 : (a0_1 != a1_1) = true := bne_iff_ne.mpr c7
    have H' := Aside0.mk H
    clear H
    have hnb15 := NB401_402.out
    have hnc15 := NB402_401.out
    obtain ⟨hcz16_0, hcz16_1, hcz16_2, hcz16_3, hfz16_0, hfz16_1, hfz16_2, hfz16_3⟩ := cf4 BK401.out
    obtain ⟨hcz17_0, hcz17_1, hcz17_2, hcz17_3, hfz17_0, hfz17_1, hfz17_2, hfz17_3⟩ := cf4 BK402.out
    go_wp2
    repeat (go_quiet (fail); try go_wp2)
    go_meet
    case rel => exact ⟨_, (true), (by first | rfl | (simp; done) | (simp [*]; done)), H', ⟨by first | omega | exact Nat.le_refl _⟩, ⟨by (with_reducible repeat (first | refine blk_drewN ?_ _ | refine blk_drew ?_ | refine blk_alloc ?_ _)); exact BK401.out⟩, ⟨by (with_reducible repeat (first | refine blk_drewN ?_ _ | refine blk_drew ?_ | refine blk_alloc ?_ _)); exact BK402.out⟩, ⟨pB⟩⟩
  ·rw [if_neg c6] at H
   have c6b0 : (a0_0 == a1_0) = false := beq_eq_false_iff_ne.mpr c6
   have c6b1 : (a0_0 != a1_0) = true := bne_iff_ne.mpr c6
   (first | rw [c6b0] | (simp only [i64_w, i32_w]; rw [c6b0]) | rw [c6b1] | (simp only [i64_w, i32_w]; rw [c6b1]) | skip)
   have H' := Aside0.mk H
   clear H
   have hnb18 := NB401_402.out
   have hnc18 := NB402_401.out
   obtain ⟨hcz19_0, hcz19_1, hcz19_2, hcz19_3, hfz19_0, hfz19_1, hfz19_2, hfz19_3⟩ := cf4 BK401.out
   obtain ⟨hcz20_0, hcz20_1, hcz20_2, hcz20_3, hfz20_0, hfz20_1, hfz20_2, hfz20_3⟩ := cf4 BK402.out
   go_wp2
   repeat (go_quiet (fail); try go_wp2)
   go_meet
   case rel => exact ⟨_, (true), (by first | rfl | (simp; done) | (simp [*]; done)), H', ⟨by first | omega | exact Nat.le_refl _⟩, ⟨by (with_reducible repeat (first | refine blk_drewN ?_ _ | refine blk_drew ?_ | refine blk_alloc ?_ _)); exact BK401.out⟩, ⟨by (with_reducible repeat (first | refine blk_drewN ?_ _ | refine blk_drew ?_ | refine blk_alloc ?_ _)); exact BK402.out⟩, ⟨pB⟩⟩
 case rest =>
  clear HC3
  try clear c1
  try clear c2
  try clear p2
  try clear c6
  try clear c6b0
  try clear c6b1
  try clear c7
  try clear c7b0
  try clear c7b1
  try clear c8
  try clear c8b0
  try clear c8b1
  try clear c9
  try clear c12
  try clear c15
  try clear c18
  try clear hcz10_0 hcz10_1 hcz10_2 hcz10_3 hcz11_0 hcz11_1 hcz11_2 hcz11_3 hcz13_0 hcz13_1 hcz13_2 hcz13_3 hcz14_0 hcz14_1 hcz14_2 hcz14_3 hcz16_0 hcz16_1 hcz16_2 hcz16_3 hcz17_0 hcz17_1 hcz17_2 hcz17_3 hcz19_0 hcz19_1 hcz19_2 hcz19_3 hcz20_0 hcz20_1 hcz20_2 hcz20_3 hfz10_0 hfz10_1 hfz10_2 hfz10_3 hfz11_0 hfz11_1 hfz11_2 hfz11_3 hfz13_0 hfz13_1 hfz13_2 hfz13_3 hfz14_0 hfz14_1 hfz14_2 hfz14_3 hfz16_0 hfz16_1 hfz16_2 hfz16_3 hfz17_0 hfz17_1 hfz17_2 hfz17_3 hfz19_0 hfz19_1 hfz19_2 hfz19_3 hfz20_0 hfz20_1 hfz20_2 hfz20_3
  obtain ⟨kq, x33_2, rfl, HA, HJ2, BK401, BK402, HB⟩ := hcut
  cases kq with
  | zero => exact absurd HA.out (by simp [minstrelref19_Same.j0])
  | succ kj2 =>
   have H := HA.out
   clear HA
   simp only [minstrelref19_Same.j0] at H
   by_cases c21 : x33_2 = true
   ·subst c21
    have H1 : (some false) = some r := by rw [if_pos rfl] at H; exact H
    clear H
    have H := H1
    clear H1
    obtain rfl := Option.some.inj H
    go_wp2
    repeat (go_quiet (fail); try go_wp2)
    go_ret
    exact ⟨pE, pB⟩
   ·replace c21 := Bool.eq_false_iff.mpr c21
    subst c21
    have H1 : (minstrelref19_Same.l0 kj2 0 a0_0 a0_1 a0_2 l0_3 a1_0 a1_1 a1_2 l1_3) = some r := by rw [if_neg (show ¬ (false = true) by decide)] at H; exact H
    clear H
    have H := H1
    clear H1
    have H' := Aside0.mk H
    clear H
    go_wp2
    repeat (go_quiet (fail); try go_wp2)
    go_loopg [5] kj2 (fun kq v5 w' => ∃ (x5_2 : Int), v5 = .int .i64 x5_2 ∧ Aside0 (minstrelref19_Same.l0 kq x5_2 a0_0 a0_1 a0_2 l0_3 a1_0 a1_1 a1_2 l1_3 = some r) ∧ Aside0 (kq ≤ kj2) ∧ Aside0 (w'.heap[gb401]? = some (.cells #[.int .u64 a0_0, .int .i64 a0_1, .string a0_2, (.slice A0_3 l0_3.length c0_3)] 46 (0, 0))) ∧ Aside0 (w'.heap[gb402]? = some (.cells #[.int .u64 a1_0, .int .i64 a1_1, .string a1_2, (.slice A1_3 l1_3.length c1_3)] 46 (0, 0))) ∧ Aside0 (Below w.heap.size w w'))
    case atStart => exact ⟨(0), (by first | rfl | (simp; done) | (simp [*]; done)), H', ⟨Nat.le_refl _⟩, ⟨by (with_reducible repeat (first | refine blk_drewN ?_ _ | refine blk_drew ?_ | refine blk_alloc ?_ _)); exact BK401.out⟩, ⟨by (with_reducible repeat (first | refine blk_drewN ?_ _ | refine blk_drew ?_ | refine blk_alloc ?_ _)); exact BK402.out⟩, ⟨pB⟩⟩
    case round =>
     clear H'
     try clear c1
     try clear c2
     try clear p2
     try clear c6
     try clear c6b0
     try clear c6b1
     try clear c7
     try clear c7b0
     try clear c7b1
     try clear c8
     try clear c8b0
     try clear c8b1
     try clear c9
     try clear c12
     try clear c15
     try clear c18
     try clear c21
     try clear hcz10_0 hcz10_1 hcz10_2 hcz10_3 hcz11_0 hcz11_1 hcz11_2 hcz11_3 hcz13_0 hcz13_1 hcz13_2 hcz13_3 hcz14_0 hcz14_1 hcz14_2 hcz14_3 hcz16_0 hcz16_1 hcz16_2 hcz16_3 hcz17_0 hcz17_1 hcz17_2 hcz17_3 hcz19_0 hcz19_1 hcz19_2 hcz19_3 hcz20_0 hcz20_1 hcz20_2 hcz20_3 hfz10_0 hfz10_1 hfz10_2 hfz10_3 hfz11_0 hfz11_1 hfz11_2 hfz11_3 hfz13_0 hfz13_1 hfz13_2 hfz13_3 hfz14_0 hfz14_1 hfz14_2 hfz14_3 hfz16_0 hfz16_1 hfz16_2 hfz16_3 hfz17_0 hfz17_1 hfz17_2 hfz17_3 hfz19_0 hfz19_1 hfz19_2 hfz19_3 hfz20_0 hfz20_1 hfz20_2 hfz20_3
     try clear p2
     obtain ⟨x5_2, rfl, HA, HK2, BK401, BK402, HB⟩ := hrel
     cases gk with
     | zero => exact absurd HA.out (by simp [minstrelref19_Same.l0])
     | succ k2 =>
      have H := HA.out
      clear HA
      simp only [minstrelref19_Same.l0] at H
      by_cases c22 : x5_2 < (l0_3.length : Int)
      ·rw [if_pos c22] at H
       have c22b0 : decide (x5_2 < (l0_3.length : Int)) = true := decide_eq_true c22
       clear c22
       by_cases c23 : 0 ≤ x5_2
       ·rw [if_pos c23] at H
        have c23b0 : decide (0 ≤ x5_2) = true := decide_eq_true c23
        clear c23
        by_cases c24 : x5_2 < (l1_3.length : Int)
        ·rw [if_pos c24] at H
         have c24b0 : decide (x5_2 < (l1_3.length : Int)) = true := decide_eq_true c24
         clear c24
         by_cases c25 : (rd l0_3 x5_2) = (rd l1_3 x5_2)
         ·rw [if_pos c25] at H
          have c25b0 : ((rd l0_3 x5_2) == (rd l1_3 x5_2)) = true := beq_iff_eq.mpr c25
          have c25b1 : ((rd l0_3 x5_2) != (rd l1_3 x5_2)) = false := bne_eq_false_iff_eq.mpr c25
          clear c25
          have H' := Aside0.mk H
          clear H
          have hnb26 := NB401_402.out
          have hnc26 := NB402_401.out
          obtain ⟨hcz27_0, hcz27_1, hcz27_2, hcz27_3, hfz27_0, hfz27_1, hfz27_2, hfz27_3⟩ := cf4 BK401.out
          have p403 : 0 ≤ (x5_2 : Int) := pD
          have q403 : x5_2 < (l0_3.length : Int) := pD
          obtain ⟨ad403, e403, hx403_0⟩ := Kd.at_int HR0_3.out x5_2 p403 q403
          cases e403
          replace hx403_0 := (HB.out.cell (World.block_lt_of_cell? w _ hx403_0)).trans hx403_0
          replace p403 := eq_true p403
          replace q403 := eq_true q403
          obtain ⟨hcz28_0, hcz28_1, hcz28_2, hcz28_3, hfz28_0, hfz28_1, hfz28_2, hfz28_3⟩ := cf4 BK402.out
          have p404 : 0 ≤ (x5_2 : Int) := pD
          have q404 : x5_2 < (l1_3.length : Int) := pD
          obtain ⟨ad404, e404, hx404_0⟩ := Kd.at_int HR1_3.out x5_2 p404 q404
          cases e404
          replace hx404_0 := (HB.out.cell (World.block_lt_of_cell? w _ hx404_0)).trans hx404_0
          replace p404 := eq_true p404
          replace q404 := eq_true q404
          go_wp2
          repeat (go_quiet (fail); try go_wp2)
          go_roundg k2
          case measure => have := HJ2.out; have := HK2.out; omega
          case rel => exact ⟨(wrap64 (x5_2 + 1)), (by first | rfl | (simp; done) | (simp [*]; done)), H', ⟨by have := HJ2.out; have := HK2.out; omega⟩, ⟨by (with_reducible repeat (first | refine blk_drewN ?_ _ | refine blk_drew ?_ | refine blk_alloc ?_ _)); exact BK401.out⟩, ⟨by (with_reducible repeat (first | refine blk_drewN ?_ _ | refine blk_drew ?_ | refine blk_alloc ?_ _)); exact BK402.out⟩, ⟨pB⟩⟩
         ·rw [if_neg c25] at H
          have c25b0 : ((rd l0_3 x5_2) == (rd l1_3 x5_2)) = false := beq_eq_false_iff_ne.mpr c25
          have c25b1 : ((rd l0_3 x5_2) != (rd l1_3 x5_2)) = true := bne_iff_ne.mpr c25
          obtain rfl := Option.some.inj H
          have hnb29 := NB401_402.out
          have hnc29 := NB402_401.out
          obtain ⟨hcz30_0, hcz30_1, hcz30_2, hcz30_3, hfz30_0, hfz30_1, hfz30_2, hfz30_3⟩ := cf4 BK401.out
          have p403 : 0 ≤ (x5_2 : Int) := pD
          have q403 : x5_2 < (l0_3.length : Int) := pD
          obtain ⟨ad403, e403, hx403_0⟩ := Kd.at_int HR0_3.out x5_2 p403 q403
          cases e403
          replace hx403_0 := (HB.out.cell (World.block_lt_of_cell? w _ hx403_0)).trans hx403_0
          replace p403 := eq_true p403
          replace q403 := eq_true q403
          obtain ⟨hcz31_0, hcz31_1, hcz31_2, hcz31_3, hfz31_0, hfz31_1, hfz31_2, hfz31_3⟩ := cf4 BK402.out
          have p404 : 0 ≤ (x5_2 : Int) := pD
          have q404 : x5_2 < (l1_3.length : Int) := pD
          obtain ⟨ad404, e404, hx404_0⟩ := Kd.at_int HR1_3.out x5_2 p404 q404
          cases e404
          replace hx404_0 := (HB.out.cell (World.block_lt_of_cell? w _ hx404_0)).trans hx404_0
          replace p404 := eq_true p404
          replace q404 := eq_true q404
          go_wp2
          repeat (go_quiet (fail); try go_wp2)
          go_ret
          exact ⟨pE, pB⟩
        ·rw [if_neg c24] at H
         exact absurd H (by simp)
       ·rw [if_neg c23] at H
        exact absurd H (by simp)
      ·rw [if_neg c22] at H
       have c22b0 : decide (x5_2 < (l0_3.length : Int)) = false := decide_eq_false c22
       clear c22
       obtain rfl := Option.some.inj H
       have hnb32 := NB401_402.out
       have hnc32 := NB402_401.out
       obtain ⟨hcz33_0, hcz33_1, hcz33_2, hcz33_3, hfz33_0, hfz33_1, hfz33_2, hfz33_3⟩ := cf4 BK401.out
       go_wp2
       repeat (go_quiet (fail); try go_wp2)
       go_ret
       exact ⟨pE, pB⟩
def minstrelref19_Snaps.f (k : Nat) (a0_0 : Int) (a0_1 : Int) (l0_2 : List Int) (a0_3 : Int) (a0_4 : Int) (a0_5 : ByteArray) (l0_6 : List (S26)) (a0_7 : Int) (a0_8 : Int) (a0_9 : ByteArray) (l0_10 : List (S26)) (a1_0 : Int) (a1_1 : Int) (l1_2 : List Int) (a1_3 : Int) (a1_4 : Int) (a1_5 : ByteArray) (l1_6 : List (S26)) (a1_7 : Int) (a1_8 : Int) (a1_9 : ByteArray) (l1_10 : List (S26)) : Option (Bool) := if a0_0 = a1_0 then (if a0_1 = a1_1 then ((minstrelref19_Same.f k 0 0 (⟨#[]⟩ : ByteArray) l0_2 0 0 (⟨#[]⟩ : ByteArray) l1_2).bind fun t407 => (if t407 = true then ((minstrelref07_Same.f k a0_3 a0_4 a0_5 l0_6 a1_3 a1_4 a1_5 l1_6).bind fun t408 => (if t408 = true then ((minstrelref07_Same.f k a0_7 a0_8 a0_9 l0_10 a1_7 a1_8 a1_9 l1_10).bind fun t409 => (some t409)) else (some false))) else (some false))) else (some false)) else (some false)
theorem minstrelref19_Snaps.mono : ∀ a0 a1 a2 a3 a4 a5 a6 a7 a8 a9 a10 a11 a12 a13 a14 a15 a16 a17 a18 a19 a20 a21 k, LeO (minstrelref19_Snaps.f k a0 a1 a2 a3 a4 a5 a6 a7 a8 a9 a10 a11 a12 a13 a14 a15 a16 a17 a18 a19 a20 a21) (minstrelref19_Snaps.f (k + 1) a0 a1 a2 a3 a4 a5 a6 a7 a8 a9 a10 a11 a12 a13 a14 a15 a16 a17 a18 a19 a20 a21) := by
 intro a0 a1 a2 a3 a4 a5 a6 a7 a8 a9 a10 a11 a12 a13 a14 a15 a16 a17 a18 a19 a20 a21 k
 unfold minstrelref19_Snaps.f
 repeat' first
   | (with_reducible exact minstrelref07_Same.mono _ _ _ _ _ _ _ _ _)
   | (with_reducible exact minstrelref19_Same.mono _ _ _ _ _ _ _ _ _)
   | (with_reducible exact LeO.refl _)
   | (with_reducible exact LeO.none _)
   | (with_reducible refine LeO.ite ?_ ?_)
   | (with_reducible refine LeO.bind ?_ (fun _ => ?_))
   | exact minstrelref07_Same.mono _ _ _ _ _ _ _ _ _
   | exact minstrelref19_Same.mono _ _ _ _ _ _ _ _ _
   | exact LeO.none _
   | refine LeO.ite ?_ ?_
   | refine LeO.bind ?_ (fun _ => ?_)
set_option maxHeartbeats 8000000 in
set_option maxRecDepth 100000 in
theorem minstrelref19_Snaps.calls (k : Nat) (a0_0 : Int) (a0_1 : Int) (A0_2 : Option Addr) (c0_2 : Nat) (l0_2 : List Int) (a0_3 : Int) (a0_4 : Int) (a0_5 : ByteArray) (A0_6 : Option Addr) (c0_6 : Nat) (l0_6 : List (S26)) (a0_7 : Int) (a0_8 : Int) (a0_9 : ByteArray) (A0_10 : Option Addr) (c0_10 : Nat) (l0_10 : List (S26)) (a1_0 : Int) (a1_1 : Int) (A1_2 : Option Addr) (c1_2 : Nat) (l1_2 : List Int) (a1_3 : Int) (a1_4 : Int) (a1_5 : ByteArray) (A1_6 : Option Addr) (c1_6 : Nat) (l1_6 : List (S26)) (a1_7 : Int) (a1_8 : Int) (a1_9 : ByteArray) (A1_10 : Option Addr) (c1_10 : Nat) (l1_10 : List (S26)) (r : Bool) (w : World) (hr0_2 : Kd.C (Kd.int .i64) w A0_2 l0_2.length l0_2) (hc0_2 : l0_2.length ≤ c0_2) (hr0_6 : Kd.C k26 w A0_6 l0_6.length l0_6) (hc0_6 : l0_6.length ≤ c0_6) (hr0_10 : Kd.C k26 w A0_10 l0_10.length l0_10) (hc0_10 : l0_10.length ≤ c0_10) (hr1_2 : Kd.C (Kd.int .i64) w A1_2 l1_2.length l1_2) (hc1_2 : l1_2.length ≤ c1_2) (hr1_6 : Kd.C k26 w A1_6 l1_6.length l1_6) (hc1_6 : l1_6.length ≤ c1_6) (hr1_10 : Kd.C k26 w A1_10 l1_10.length l1_10) (hc1_10 : l1_10.length ≤ c1_10) (h : minstrelref19_Snaps.f k a0_0 a0_1 l0_2 a0_3 a0_4 a0_5 l0_6 a0_7 a0_8 a0_9 l0_10 a1_0 a1_1 l1_2 a1_3 a1_4 a1_5 l1_6 a1_7 a1_8 a1_9 l1_10 = some r) :
  Calls Tryd.prog 15 #[.agg #[.int .u64 a0_0, .int .u64 a0_1, .slice A0_2 l0_2.length c0_2, .int .i64 a0_3, .int .u64 a0_4, .string a0_5, .slice A0_6 l0_6.length c0_6, .int .i64 a0_7, .int .u64 a0_8, .string a0_9, .slice A0_10 l0_10.length c0_10], .agg #[.int .u64 a1_0, .int .u64 a1_1, .slice A1_2 l1_2.length c1_2, .int .i64 a1_3, .int .u64 a1_4, .string a1_5, .slice A1_6 l1_6.length c1_6, .int .i64 a1_7, .int .u64 a1_8, .string a1_9, .slice A1_10 l1_10.length c1_10]] w fun e w' => e = .returned (.bool r) ∧ Below w.heap.size w w' := by
 have hu28 := Tryd.underlying28
 have hu46 := Tryd.underlying46
 have hu26 := Tryd.underlying26
 have HR0_2 := Aside0.mk hr0_2
 have HC0_2 := Aside0.mk hc0_2
 clear hr0_2 hc0_2
 have HR0_6 := Aside0.mk hr0_6
 have HC0_6 := Aside0.mk hc0_6
 clear hr0_6 hc0_6
 have HR0_10 := Aside0.mk hr0_10
 have HC0_10 := Aside0.mk hc0_10
 clear hr0_10 hc0_10
 have HR1_2 := Aside0.mk hr1_2
 have HC1_2 := Aside0.mk hc1_2
 clear hr1_2 hc1_2
 have HR1_6 := Aside0.mk hr1_6
 have HC1_6 := Aside0.mk hc1_6
 clear hr1_6 hc1_6
 have HR1_10 := Aside0.mk hr1_10
 have HC1_10 := Aside0.mk hc1_10
 clear hr1_10 hc1_10
 have HB := Aside0.mk (Below.refl w.heap.size w)
 have H : (if a0_0 = a1_0 then (if a0_1 = a1_1 then ((minstrelref19_Same.f k 0 0 (⟨#[]⟩ : ByteArray) l0_2 0 0 (⟨#[]⟩ : ByteArray) l1_2).bind fun t407 => (if t407 = true then ((minstrelref07_Same.f k a0_3 a0_4 a0_5 l0_6 a1_3 a1_4 a1_5 l1_6).bind fun t408 => (if t408 = true then ((minstrelref07_Same.f k a0_7 a0_8 a0_9 l0_10 a1_7 a1_8 a1_9 l1_10).bind fun t409 => (some t409)) else (some false))) else (some false))) else (some false)) else (some false)) = some r := h
 clear h
 by_cases c3 : a0_0 = a1_0
 ·rw [if_pos c3] at H
  have c3b0 : (a0_0 == a1_0) = true := beq_iff_eq.mpr c3
  have c3b1 : (a0_0 != a1_0) = false := bne_eq_false_iff_eq.mpr c3
  clear c3
  by_cases c4 : a0_1 = a1_1
  ·rw [if_pos c4] at H
   have c4b0 : (a0_1 == a1_1) = true := beq_iff_eq.mpr c4
   have c4b1 : (a0_1 != a1_1) = false := bne_eq_false_iff_eq.mpr c4
   clear c4
   replace H := Option.bind_eq_some_iff.mp H
   obtain ⟨t407, A50, H⟩ := H
   replace H : (if t407 = true then ((minstrelref07_Same.f k a0_3 a0_4 a0_5 l0_6 a1_3 a1_4 a1_5 l1_6).bind fun t408 => (if t408 = true then ((minstrelref07_Same.f k a0_7 a0_8 a0_9 l0_10 a1_7 a1_8 a1_9 l1_10).bind fun t409 => (some t409)) else (some false))) else (some false)) = some r := H
   have A5 := Aside0.mk A50
   clear A50
   by_cases c6 : t407 = true
   ·subst c6
    have H1 : ((minstrelref07_Same.f k a0_3 a0_4 a0_5 l0_6 a1_3 a1_4 a1_5 l1_6).bind fun t408 => (if t408 = true then ((minstrelref07_Same.f k a0_7 a0_8 a0_9 l0_10 a1_7 a1_8 a1_9 l1_10).bind fun t409 => (some t409)) else (some false))) = some r := by rw [if_pos rfl] at H; exact H
    clear H
    have H := H1
    clear H1
    replace H := Option.bind_eq_some_iff.mp H
    obtain ⟨t408, A70, H⟩ := H
    replace H : (if t408 = true then ((minstrelref07_Same.f k a0_7 a0_8 a0_9 l0_10 a1_7 a1_8 a1_9 l1_10).bind fun t409 => (some t409)) else (some false)) = some r := H
    have A7 := Aside0.mk A70
    clear A70
    by_cases c8 : t408 = true
    ·subst c8
     have H1 : ((minstrelref07_Same.f k a0_7 a0_8 a0_9 l0_10 a1_7 a1_8 a1_9 l1_10).bind fun t409 => (some t409)) = some r := by rw [if_pos rfl] at H; exact H
     clear H
     have H := H1
     clear H1
     replace H := Option.bind_eq_some_iff.mp H
     obtain ⟨t409, A90, H⟩ := H
     replace H : (some t409) = some r := H
     have A9 := Aside0.mk A90
     clear A90
     obtain rfl := Option.some.inj H
     go_enter Tryd.func15, Tryd.ntmps15
     go_wp2_with (first | ((with_reducible refine gate_dst (N := 2) rfl ?_); refine box_event ?hg (N := 2) ?hd (cs := #[.int .u64 a0_0, .int .u64 a0_1, .slice A0_2 l0_2.length c0_2, .int .i64 a0_3, .int .u64 a0_4, .string a0_5, .slice A0_6 l0_6.length c0_6, .int .i64 a0_7, .int .u64 a0_8, .string a0_9, .slice A0_10 l0_10.length c0_10]) (t := 28) ?hr ?_; (case hd => rfl); (case hg => rfl); (case hr => first | (go_simp; done) | (go_simp; rfl)); intro gb405 hg w10 hbox hb; have n0_ := Aside0.mk (below_step pB hb); have n1_ := Aside0.mk (hbox); have n2_ := Aside0.mk ((by rw [hg]; exact (below_size pB) : w.heap.size ≤ gb405)); have n3_ := Aside0.mk ((by rw [hg]; exact (below_size pB) : w.heap.size ≤ gb405)); clear HB; have HB := n0_; have BK405 := n1_; have GW405 := n2_; have GE405 := n3_; clear n0_ n1_ n2_ n3_; clear hb hbox hg) | ((with_reducible refine gate_dst (N := 3) rfl ?_); refine box_event ?hg (N := 3) ?hd (cs := #[.int .u64 a1_0, .int .u64 a1_1, .slice A1_2 l1_2.length c1_2, .int .i64 a1_3, .int .u64 a1_4, .string a1_5, .slice A1_6 l1_6.length c1_6, .int .i64 a1_7, .int .u64 a1_8, .string a1_9, .slice A1_10 l1_10.length c1_10]) (t := 28) ?hr ?_; (case hd => rfl); (case hg => rfl); (case hr => first | (go_simp; done) | (go_simp; rfl)); intro gb406 hg w11 hbox hb; have n0_ := Aside0.mk (pkb BK405.out hb); have n1_ := Aside0.mk (below_step pB hb); have n2_ := Aside0.mk (hbox); have n3_ := Aside0.mk ((by rw [hg]; exact (below_size pB) : w.heap.size ≤ gb406)); have n4_ := Aside0.mk ((by rw [hg]; exact (below_size pB) : w.heap.size ≤ gb406)); have n5_ := Aside0.mk ((by rw [hg]; exact Nat.ne_of_lt (pkl BK405.out) : gb405 ≠ gb406)); have n6_ := Aside0.mk ((by rw [hg]; exact Nat.ne_of_gt (pkl BK405.out) : gb406 ≠ gb405)); clear BK405; clear HB; have BK405 := n0_; have HB := n1_; have BK406 := n2_; have GW406 := n3_; have GE406 := n4_; have NB405_406 := n5_; have NB406_405 := n6_; clear n0_ n1_ n2_ n3_ n4_ n5_ n6_; clear hb hbox hg; have hnb12 := NB405_406.out; have hnc12 := NB406_405.out; obtain ⟨hcz13_0, hcz13_1, hcz13_2, hcz13_3, hcz13_4, hcz13_5, hcz13_6, hcz13_7, hcz13_8, hcz13_9, hcz13_10, hfz13_0, hfz13_1, hfz13_2, hfz13_3, hfz13_4, hfz13_5, hfz13_6, hfz13_7, hfz13_8, hfz13_9, hfz13_10⟩ := cf11 BK405.out; obtain ⟨hcz14_0, hcz14_1, hcz14_2, hcz14_3, hcz14_4, hcz14_5, hcz14_6, hcz14_7, hcz14_8, hcz14_9, hcz14_10, hfz14_0, hfz14_1, hfz14_2, hfz14_3, hfz14_4, hfz14_5, hfz14_6, hfz14_7, hfz14_8, hfz14_9, hfz14_10⟩ := cf11 BK406.out) | (go_at_call 23; (with_reducible refine (minstrelref19_Same.calls k 0 0 (⟨#[]⟩ : ByteArray) _ _ l0_2 0 0 (⟨#[]⟩ : ByteArray) _ _ l1_2 true _ ?side1 ?side2 ?side3 ?side4 A5.out).mono ?_); (case side1 => exact pC (Kd.C_below HR0_2.out HB.out)); (case side2 => exact HC0_2.out); (case side3 => exact pC (Kd.C_below HR1_2.out HB.out)); (case side4 => exact HC1_2.out); rintro e w15 ⟨rfl, hb⟩; have n0_ := Aside0.mk (pkb BK405.out hb); have n1_ := Aside0.mk (pkb BK406.out hb); have n2_ := Aside0.mk (below_step pB hb); clear BK405; clear BK406; clear HB; have BK405 := n0_; have BK406 := n1_; have HB := n2_; clear n0_ n1_ n2_; (try clear hb); (try clear hb2); (try clear hk); (try clear hi); obtain ⟨hcz16_0, hcz16_1, hcz16_2, hcz16_3, hcz16_4, hcz16_5, hcz16_6, hcz16_7, hcz16_8, hcz16_9, hcz16_10, hfz16_0, hfz16_1, hfz16_2, hfz16_3, hfz16_4, hfz16_5, hfz16_6, hfz16_7, hfz16_8, hfz16_9, hfz16_10⟩ := cf11 BK405.out; obtain ⟨hcz17_0, hcz17_1, hcz17_2, hcz17_3, hcz17_4, hcz17_5, hcz17_6, hcz17_7, hcz17_8, hcz17_9, hcz17_10, hfz17_0, hfz17_1, hfz17_2, hfz17_3, hfz17_4, hfz17_5, hfz17_6, hfz17_7, hfz17_8, hfz17_9, hfz17_10⟩ := cf11 BK406.out) | (go_at_call 19; (with_reducible refine (minstrelref07_Same.calls k a0_3 a0_4 a0_5 _ _ l0_6 a1_3 a1_4 a1_5 _ _ l1_6 true _ ?side1 ?side2 ?side3 ?side4 A7.out).mono ?_); (case side1 => exact pC (Kd.C_below HR0_6.out HB.out)); (case side2 => exact HC0_6.out); (case side3 => exact pC (Kd.C_below HR1_6.out HB.out)); (case side4 => exact HC1_6.out); rintro e w18 ⟨rfl, hb⟩; have n0_ := Aside0.mk (pkb BK405.out hb); have n1_ := Aside0.mk (pkb BK406.out hb); have n2_ := Aside0.mk (below_step pB hb); clear BK405; clear BK406; clear HB; have BK405 := n0_; have BK406 := n1_; have HB := n2_; clear n0_ n1_ n2_; (try clear hb); (try clear hb2); (try clear hk); (try clear hi); obtain ⟨hcz19_0, hcz19_1, hcz19_2, hcz19_3, hcz19_4, hcz19_5, hcz19_6, hcz19_7, hcz19_8, hcz19_9, hcz19_10, hfz19_0, hfz19_1, hfz19_2, hfz19_3, hfz19_4, hfz19_5, hfz19_6, hfz19_7, hfz19_8, hfz19_9, hfz19_10⟩ := cf11 BK405.out; obtain ⟨hcz20_0, hcz20_1, hcz20_2, hcz20_3, hcz20_4, hcz20_5, hcz20_6, hcz20_7, hcz20_8, hcz20_9, hcz20_10, hfz20_0, hfz20_1, hfz20_2, hfz20_3, hfz20_4, hfz20_5, hfz20_6, hfz20_7, hfz20_8, hfz20_9, hfz20_10⟩ := cf11 BK406.out) | (go_at_call 19; (with_reducible refine (minstrelref07_Same.calls k a0_7 a0_8 a0_9 _ _ l0_10 a1_7 a1_8 a1_9 _ _ l1_10 t409 _ ?side1 ?side2 ?side3 ?side4 A9.out).mono ?_); (case side1 => exact pC (Kd.C_below HR0_10.out HB.out)); (case side2 => exact HC0_10.out); (case side3 => exact pC (Kd.C_below HR1_10.out HB.out)); (case side4 => exact HC1_10.out); rintro e w21 ⟨rfl, hb⟩; have n0_ := Aside0.mk (pkb BK405.out hb); have n1_ := Aside0.mk (pkb BK406.out hb); have n2_ := Aside0.mk (below_step pB hb); clear BK405; clear BK406; clear HB; have BK405 := n0_; have BK406 := n1_; have HB := n2_; clear n0_ n1_ n2_; (try clear hb); (try clear hb2); (try clear hk); (try clear hi)))
     go_ret
     exact ⟨pE, pB⟩
    ·replace c8 := Bool.eq_false_iff.mpr c8
     subst c8
     have H1 : (some false) = some r := by rw [if_neg (show ¬ (false = true) by decide)] at H; exact H
     clear H
     have H := H1
     clear H1
     obtain rfl := Option.some.inj H
     go_enter Tryd.func15, Tryd.ntmps15
     go_wp2_with (first | ((with_reducible refine gate_dst (N := 2) rfl ?_); refine box_event ?hg (N := 2) ?hd (cs := #[.int .u64 a0_0, .int .u64 a0_1, .slice A0_2 l0_2.length c0_2, .int .i64 a0_3, .int .u64 a0_4, .string a0_5, .slice A0_6 l0_6.length c0_6, .int .i64 a0_7, .int .u64 a0_8, .string a0_9, .slice A0_10 l0_10.length c0_10]) (t := 28) ?hr ?_; (case hd => rfl); (case hg => rfl); (case hr => first | (go_simp; done) | (go_simp; rfl)); intro gb405 hg w22 hbox hb; have n0_ := Aside0.mk (below_step pB hb); have n1_ := Aside0.mk (hbox); have n2_ := Aside0.mk ((by rw [hg]; exact (below_size pB) : w.heap.size ≤ gb405)); have n3_ := Aside0.mk ((by rw [hg]; exact (below_size pB) : w.heap.size ≤ gb405)); clear HB; have HB := n0_; have BK405 := n1_; have GW405 := n2_; have GE405 := n3_; clear n0_ n1_ n2_ n3_; clear hb hbox hg) | ((with_reducible refine gate_dst (N := 3) rfl ?_); refine box_event ?hg (N := 3) ?hd (cs := #[.int .u64 a1_0, .int .u64 a1_1, .slice A1_2 l1_2.length c1_2, .int .i64 a1_3, .int .u64 a1_4, .string a1_5, .slice A1_6 l1_6.length c1_6, .int .i64 a1_7, .int .u64 a1_8, .string a1_9, .slice A1_10 l1_10.length c1_10]) (t := 28) ?hr ?_; (case hd => rfl); (case hg => rfl); (case hr => first | (go_simp; done) | (go_simp; rfl)); intro gb406 hg w23 hbox hb; have n0_ := Aside0.mk (pkb BK405.out hb); have n1_ := Aside0.mk (below_step pB hb); have n2_ := Aside0.mk (hbox); have n3_ := Aside0.mk ((by rw [hg]; exact (below_size pB) : w.heap.size ≤ gb406)); have n4_ := Aside0.mk ((by rw [hg]; exact (below_size pB) : w.heap.size ≤ gb406)); have n5_ := Aside0.mk ((by rw [hg]; exact Nat.ne_of_lt (pkl BK405.out) : gb405 ≠ gb406)); have n6_ := Aside0.mk ((by rw [hg]; exact Nat.ne_of_gt (pkl BK405.out) : gb406 ≠ gb405)); clear BK405; clear HB; have BK405 := n0_; have HB := n1_; have BK406 := n2_; have GW406 := n3_; have GE406 := n4_; have NB405_406 := n5_; have NB406_405 := n6_; clear n0_ n1_ n2_ n3_ n4_ n5_ n6_; clear hb hbox hg; have hnb24 := NB405_406.out; have hnc24 := NB406_405.out; obtain ⟨hcz25_0, hcz25_1, hcz25_2, hcz25_3, hcz25_4, hcz25_5, hcz25_6, hcz25_7, hcz25_8, hcz25_9, hcz25_10, hfz25_0, hfz25_1, hfz25_2, hfz25_3, hfz25_4, hfz25_5, hfz25_6, hfz25_7, hfz25_8, hfz25_9, hfz25_10⟩ := cf11 BK405.out; obtain ⟨hcz26_0, hcz26_1, hcz26_2, hcz26_3, hcz26_4, hcz26_5, hcz26_6, hcz26_7, hcz26_8, hcz26_9, hcz26_10, hfz26_0, hfz26_1, hfz26_2, hfz26_3, hfz26_4, hfz26_5, hfz26_6, hfz26_7, hfz26_8, hfz26_9, hfz26_10⟩ := cf11 BK406.out) | (go_at_call 23; (with_reducible refine (minstrelref19_Same.calls k 0 0 (⟨#[]⟩ : ByteArray) _ _ l0_2 0 0 (⟨#[]⟩ : ByteArray) _ _ l1_2 true _ ?side1 ?side2 ?side3 ?side4 A5.out).mono ?_); (case side1 => exact pC (Kd.C_below HR0_2.out HB.out)); (case side2 => exact HC0_2.out); (case side3 => exact pC (Kd.C_below HR1_2.out HB.out)); (case side4 => exact HC1_2.out); rintro e w27 ⟨rfl, hb⟩; have n0_ := Aside0.mk (pkb BK405.out hb); have n1_ := Aside0.mk (pkb BK406.out hb); have n2_ := Aside0.mk (below_step pB hb); clear BK405; clear BK406; clear HB; have BK405 := n0_; have BK406 := n1_; have HB := n2_; clear n0_ n1_ n2_; (try clear hb); (try clear hb2); (try clear hk); (try clear hi); obtain ⟨hcz28_0, hcz28_1, hcz28_2, hcz28_3, hcz28_4, hcz28_5, hcz28_6, hcz28_7, hcz28_8, hcz28_9, hcz28_10, hfz28_0, hfz28_1, hfz28_2, hfz28_3, hfz28_4, hfz28_5, hfz28_6, hfz28_7, hfz28_8, hfz28_9, hfz28_10⟩ := cf11 BK405.out; obtain ⟨hcz29_0, hcz29_1, hcz29_2, hcz29_3, hcz29_4, hcz29_5, hcz29_6, hcz29_7, hcz29_8, hcz29_9, hcz29_10, hfz29_0, hfz29_1, hfz29_2, hfz29_3, hfz29_4, hfz29_5, hfz29_6, hfz29_7, hfz29_8, hfz29_9, hfz29_10⟩ := cf11 BK406.out) | (go_at_call 19; (with_reducible refine (minstrelref07_Same.calls k a0_3 a0_4 a0_5 _ _ l0_6 a1_3 a1_4 a1_5 _ _ l1_6 false _ ?side1 ?side2 ?side3 ?side4 A7.out).mono ?_); (case side1 => exact pC (Kd.C_below HR0_6.out HB.out)); (case side2 => exact HC0_6.out); (case side3 => exact pC (Kd.C_below HR1_6.out HB.out)); (case side4 => exact HC1_6.out); rintro e w30 ⟨rfl, hb⟩; have n0_ := Aside0.mk (pkb BK405.out hb); have n1_ := Aside0.mk (pkb BK406.out hb); have n2_ := Aside0.mk (below_step pB hb); clear BK405; clear BK406; clear HB; have BK405 := n0_; have BK406 := n1_; have HB := n2_; clear n0_ n1_ n2_; (try clear hb); (try clear hb2); (try clear hk); (try clear hi)))
     go_ret
     exact ⟨pE, pB⟩
   ·replace c6 := Bool.eq_false_iff.mpr c6
    subst c6
    have H1 : (some false) = some r := by rw [if_neg (show ¬ (false = true) by decide)] at H; exact H
    clear H
    have H := H1
    clear H1
    obtain rfl := Option.some.inj H
    go_enter Tryd.func15, Tryd.ntmps15
    go_wp2_with (first | ((with_reducible refine gate_dst (N := 2) rfl ?_); refine box_event ?hg (N := 2) ?hd (cs := #[.int .u64 a0_0, .int .u64 a0_1, .slice A0_2 l0_2.length c0_2, .int .i64 a0_3, .int .u64 a0_4, .string a0_5, .slice A0_6 l0_6.length c0_6, .int .i64 a0_7, .int .u64 a0_8, .string a0_9, .slice A0_10 l0_10.length c0_10]) (t := 28) ?hr ?_; (case hd => rfl); (case hg => rfl); (case hr => first | (go_simp; done) | (go_simp; rfl)); intro gb405 hg w31 hbox hb; have n0_ := Aside0.mk (below_step pB hb); have n1_ := Aside0.mk (hbox); have n2_ := Aside0.mk ((by rw [hg]; exact (below_size pB) : w.heap.size ≤ gb405)); have n3_ := Aside0.mk ((by rw [hg]; exact (below_size pB) : w.heap.size ≤ gb405)); clear HB; have HB := n0_; have BK405 := n1_; have GW405 := n2_; have GE405 := n3_; clear n0_ n1_ n2_ n3_; clear hb hbox hg) | ((with_reducible refine gate_dst (N := 3) rfl ?_); refine box_event ?hg (N := 3) ?hd (cs := #[.int .u64 a1_0, .int .u64 a1_1, .slice A1_2 l1_2.length c1_2, .int .i64 a1_3, .int .u64 a1_4, .string a1_5, .slice A1_6 l1_6.length c1_6, .int .i64 a1_7, .int .u64 a1_8, .string a1_9, .slice A1_10 l1_10.length c1_10]) (t := 28) ?hr ?_; (case hd => rfl); (case hg => rfl); (case hr => first | (go_simp; done) | (go_simp; rfl)); intro gb406 hg w32 hbox hb; have n0_ := Aside0.mk (pkb BK405.out hb); have n1_ := Aside0.mk (below_step pB hb); have n2_ := Aside0.mk (hbox); have n3_ := Aside0.mk ((by rw [hg]; exact (below_size pB) : w.heap.size ≤ gb406)); have n4_ := Aside0.mk ((by rw [hg]; exact (below_size pB) : w.heap.size ≤ gb406)); have n5_ := Aside0.mk ((by rw [hg]; exact Nat.ne_of_lt (pkl BK405.out) : gb405 ≠ gb406)); have n6_ := Aside0.mk ((by rw [hg]; exact Nat.ne_of_gt (pkl BK405.out) : gb406 ≠ gb405)); clear BK405; clear HB; have BK405 := n0_; have HB := n1_; have BK406 := n2_; have GW406 := n3_; have GE406 := n4_; have NB405_406 := n5_; have NB406_405 := n6_; clear n0_ n1_ n2_ n3_ n4_ n5_ n6_; clear hb hbox hg; have hnb33 := NB405_406.out; have hnc33 := NB406_405.out; obtain ⟨hcz34_0, hcz34_1, hcz34_2, hcz34_3, hcz34_4, hcz34_5, hcz34_6, hcz34_7, hcz34_8, hcz34_9, hcz34_10, hfz34_0, hfz34_1, hfz34_2, hfz34_3, hfz34_4, hfz34_5, hfz34_6, hfz34_7, hfz34_8, hfz34_9, hfz34_10⟩ := cf11 BK405.out; obtain ⟨hcz35_0, hcz35_1, hcz35_2, hcz35_3, hcz35_4, hcz35_5, hcz35_6, hcz35_7, hcz35_8, hcz35_9, hcz35_10, hfz35_0, hfz35_1, hfz35_2, hfz35_3, hfz35_4, hfz35_5, hfz35_6, hfz35_7, hfz35_8, hfz35_9, hfz35_10⟩ := cf11 BK406.out) | (go_at_call 23; (with_reducible refine (minstrelref19_Same.calls k 0 0 (⟨#[]⟩ : ByteArray) _ _ l0_2 0 0 (⟨#[]⟩ : ByteArray) _ _ l1_2 false _ ?side1 ?side2 ?side3 ?side4 A5.out).mono ?_); (case side1 => exact pC (Kd.C_below HR0_2.out HB.out)); (case side2 => exact HC0_2.out); (case side3 => exact pC (Kd.C_below HR1_2.out HB.out)); (case side4 => exact HC1_2.out); rintro e w36 ⟨rfl, hb⟩; have n0_ := Aside0.mk (pkb BK405.out hb); have n1_ := Aside0.mk (pkb BK406.out hb); have n2_ := Aside0.mk (below_step pB hb); clear BK405; clear BK406; clear HB; have BK405 := n0_; have BK406 := n1_; have HB := n2_; clear n0_ n1_ n2_; (try clear hb); (try clear hb2); (try clear hk); (try clear hi)))
    go_ret
    exact ⟨pE, pB⟩
  ·rw [if_neg c4] at H
   have c4b0 : (a0_1 == a1_1) = false := beq_eq_false_iff_ne.mpr c4
   have c4b1 : (a0_1 != a1_1) = true := bne_iff_ne.mpr c4
   obtain rfl := Option.some.inj H
   go_enter Tryd.func15, Tryd.ntmps15
   go_wp2_with (first | ((with_reducible refine gate_dst (N := 2) rfl ?_); refine box_event ?hg (N := 2) ?hd (cs := #[.int .u64 a0_0, .int .u64 a0_1, .slice A0_2 l0_2.length c0_2, .int .i64 a0_3, .int .u64 a0_4, .string a0_5, .slice A0_6 l0_6.length c0_6, .int .i64 a0_7, .int .u64 a0_8, .string a0_9, .slice A0_10 l0_10.length c0_10]) (t := 28) ?hr ?_; (case hd => rfl); (case hg => rfl); (case hr => first | (go_simp; done) | (go_simp; rfl)); intro gb405 hg w37 hbox hb; have n0_ := Aside0.mk (below_step pB hb); have n1_ := Aside0.mk (hbox); have n2_ := Aside0.mk ((by rw [hg]; exact (below_size pB) : w.heap.size ≤ gb405)); have n3_ := Aside0.mk ((by rw [hg]; exact (below_size pB) : w.heap.size ≤ gb405)); clear HB; have HB := n0_; have BK405 := n1_; have GW405 := n2_; have GE405 := n3_; clear n0_ n1_ n2_ n3_; clear hb hbox hg) | ((with_reducible refine gate_dst (N := 3) rfl ?_); refine box_event ?hg (N := 3) ?hd (cs := #[.int .u64 a1_0, .int .u64 a1_1, .slice A1_2 l1_2.length c1_2, .int .i64 a1_3, .int .u64 a1_4, .string a1_5, .slice A1_6 l1_6.length c1_6, .int .i64 a1_7, .int .u64 a1_8, .string a1_9, .slice A1_10 l1_10.length c1_10]) (t := 28) ?hr ?_; (case hd => rfl); (case hg => rfl); (case hr => first | (go_simp; done) | (go_simp; rfl)); intro gb406 hg w38 hbox hb; have n0_ := Aside0.mk (pkb BK405.out hb); have n1_ := Aside0.mk (below_step pB hb); have n2_ := Aside0.mk (hbox); have n3_ := Aside0.mk ((by rw [hg]; exact (below_size pB) : w.heap.size ≤ gb406)); have n4_ := Aside0.mk ((by rw [hg]; exact (below_size pB) : w.heap.size ≤ gb406)); have n5_ := Aside0.mk ((by rw [hg]; exact Nat.ne_of_lt (pkl BK405.out) : gb405 ≠ gb406)); have n6_ := Aside0.mk ((by rw [hg]; exact Nat.ne_of_gt (pkl BK405.out) : gb406 ≠ gb405)); clear BK405; clear HB; have BK405 := n0_; have HB := n1_; have BK406 := n2_; have GW406 := n3_; have GE406 := n4_; have NB405_406 := n5_; have NB406_405 := n6_; clear n0_ n1_ n2_ n3_ n4_ n5_ n6_; clear hb hbox hg; have hnb39 := NB405_406.out; have hnc39 := NB406_405.out; obtain ⟨hcz40_0, hcz40_1, hcz40_2, hcz40_3, hcz40_4, hcz40_5, hcz40_6, hcz40_7, hcz40_8, hcz40_9, hcz40_10, hfz40_0, hfz40_1, hfz40_2, hfz40_3, hfz40_4, hfz40_5, hfz40_6, hfz40_7, hfz40_8, hfz40_9, hfz40_10⟩ := cf11 BK405.out; obtain ⟨hcz41_0, hcz41_1, hcz41_2, hcz41_3, hcz41_4, hcz41_5, hcz41_6, hcz41_7, hcz41_8, hcz41_9, hcz41_10, hfz41_0, hfz41_1, hfz41_2, hfz41_3, hfz41_4, hfz41_5, hfz41_6, hfz41_7, hfz41_8, hfz41_9, hfz41_10⟩ := cf11 BK406.out))
   go_ret
   exact ⟨pE, pB⟩
 ·rw [if_neg c3] at H
  have c3b0 : (a0_0 == a1_0) = false := beq_eq_false_iff_ne.mpr c3
  have c3b1 : (a0_0 != a1_0) = true := bne_iff_ne.mpr c3
  obtain rfl := Option.some.inj H
  go_enter Tryd.func15, Tryd.ntmps15
  go_wp2_with (first | ((with_reducible refine gate_dst (N := 2) rfl ?_); refine box_event ?hg (N := 2) ?hd (cs := #[.int .u64 a0_0, .int .u64 a0_1, .slice A0_2 l0_2.length c0_2, .int .i64 a0_3, .int .u64 a0_4, .string a0_5, .slice A0_6 l0_6.length c0_6, .int .i64 a0_7, .int .u64 a0_8, .string a0_9, .slice A0_10 l0_10.length c0_10]) (t := 28) ?hr ?_; (case hd => rfl); (case hg => rfl); (case hr => first | (go_simp; done) | (go_simp; rfl)); intro gb405 hg w42 hbox hb; have n0_ := Aside0.mk (below_step pB hb); have n1_ := Aside0.mk (hbox); have n2_ := Aside0.mk ((by rw [hg]; exact (below_size pB) : w.heap.size ≤ gb405)); have n3_ := Aside0.mk ((by rw [hg]; exact (below_size pB) : w.heap.size ≤ gb405)); clear HB; have HB := n0_; have BK405 := n1_; have GW405 := n2_; have GE405 := n3_; clear n0_ n1_ n2_ n3_; clear hb hbox hg) | ((with_reducible refine gate_dst (N := 3) rfl ?_); refine box_event ?hg (N := 3) ?hd (cs := #[.int .u64 a1_0, .int .u64 a1_1, .slice A1_2 l1_2.length c1_2, .int .i64 a1_3, .int .u64 a1_4, .string a1_5, .slice A1_6 l1_6.length c1_6, .int .i64 a1_7, .int .u64 a1_8, .string a1_9, .slice A1_10 l1_10.length c1_10]) (t := 28) ?hr ?_; (case hd => rfl); (case hg => rfl); (case hr => first | (go_simp; done) | (go_simp; rfl)); intro gb406 hg w43 hbox hb; have n0_ := Aside0.mk (pkb BK405.out hb); have n1_ := Aside0.mk (below_step pB hb); have n2_ := Aside0.mk (hbox); have n3_ := Aside0.mk ((by rw [hg]; exact (below_size pB) : w.heap.size ≤ gb406)); have n4_ := Aside0.mk ((by rw [hg]; exact (below_size pB) : w.heap.size ≤ gb406)); have n5_ := Aside0.mk ((by rw [hg]; exact Nat.ne_of_lt (pkl BK405.out) : gb405 ≠ gb406)); have n6_ := Aside0.mk ((by rw [hg]; exact Nat.ne_of_gt (pkl BK405.out) : gb406 ≠ gb405)); clear BK405; clear HB; have BK405 := n0_; have HB := n1_; have BK406 := n2_; have GW406 := n3_; have GE406 := n4_; have NB405_406 := n5_; have NB406_405 := n6_; clear n0_ n1_ n2_ n3_ n4_ n5_ n6_; clear hb hbox hg; have hnb44 := NB405_406.out; have hnc44 := NB406_405.out; obtain ⟨hcz45_0, hcz45_1, hcz45_2, hcz45_3, hcz45_4, hcz45_5, hcz45_6, hcz45_7, hcz45_8, hcz45_9, hcz45_10, hfz45_0, hfz45_1, hfz45_2, hfz45_3, hfz45_4, hfz45_5, hfz45_6, hfz45_7, hfz45_8, hfz45_9, hfz45_10⟩ := cf11 BK405.out; obtain ⟨hcz46_0, hcz46_1, hcz46_2, hcz46_3, hcz46_4, hcz46_5, hcz46_6, hcz46_7, hcz46_8, hcz46_9, hcz46_10, hfz46_0, hfz46_1, hfz46_2, hfz46_3, hfz46_4, hfz46_5, hfz46_6, hfz46_7, hfz46_8, hfz46_9, hfz46_10⟩ := cf11 BK406.out))
  go_ret
  exact ⟨pE, pB⟩
end Go.Proofs.YtlkaffbgekbcfaaDoor.Pr
end
