/- A part of the proof of the law that RowSnapEntries shows: lemmas, and contracts of the calls that it reaches. -/
import Derived.Test.YtlkaffbgekbcfaaDoorProg
import Derived.Below
import Derived.Deep.Draws
import Derived.Deep.AppendLies
import Derived.Maps.AppendAt
import Derived.OwnWalk
import Derived.Laws.BytesArg
import Derived.Laws.MakeOwn
import Derived.Laws.OwnMore
import Derived.Deep.OwnRows
import Derived.Tactics
import Derived.Lib.ConvBytes
import Derived.Laws.Slices
import Derived.WalkKit
import Derived.KernelRfl
import Derived.RowKit3
import Derived.Deep.LoopGhost
import Derived.Deep.QuietTactic
import Derived.BigQuiet
import Derived.WideLaws
import Derived.Deep.DeepCutAuto
import Derived.Deep.CutBlock
import Derived.Deep.RegionHeld3
import Derived.Laws.Rows
import Derived.Lib.AppendStr
import Derived.ArgAppend
import Derived.Laws.IdiomCopy
import Derived.OrdersHeld
import Derived.Laws.BitsLemmas
import Derived.RowKit
import Derived.Test.YtlkaffbgekbcfaaDoorZD0
import Derived.Test.YtlkaffbgekbcfaaDoorZD1
set_option linter.unusedVariables false
set_option linter.unusedSimpArgs false
section
namespace Go.Proofs.YtlkaffbgekbcfaaDoor.Pr
open Go.RowKit Go.Proofs.YtlkaffbgekbcfaaDoorW.PrintWords Go.Proofs.YtlkaffbgekbcfaaDoorW.PrintLast Go.Proofs.YtlkaffbgekbcfaaDoorW.PrintMore
attribute [local go_sem] max2_int min2_int max_two min_two max_three min_three max_four min_four
def snap_Save.f (k : Nat) (a0_0 : Int) (a0_1 : Int) (l0_2 : List Int) (a0_3 : Int) (a0_4 : Int) (a0_5 : ByteArray) (l0_6 : List (S26)) (a0_7 : Int) (a0_8 : Int) (a0_9 : ByteArray) (l0_10 : List (S26)) : Option (List Int × Int) := (snap_can.f k l0_2).bind fun t123 => (if t123 = true then (if a0_0 > 4611686018427387904 then (some (([] : List Int), 2)) else ((code_Number.f a0_0).bind fun bt124 => ((code_Number.f a0_1).bind fun bt130 => ((snap_members.f k l0_2).bind fun bt136 => ((code_Encode.f k 2 0 (⟨#[]⟩ : ByteArray) (([(⟨bt124.1, bt124.2.1, bt124.2.2.1, bt124.2.2.2⟩ : S26), (⟨bt130.1, bt130.2.1, bt130.2.2.1, bt130.2.2.2⟩ : S26), (⟨bt136.1, bt136.2.1, bt136.2.2.1, bt136.2.2.2⟩ : S26), (⟨a0_3, a0_4, a0_5, l0_6⟩ : S26), (⟨a0_7, a0_8, a0_9, l0_10⟩ : S26)] : List (S26)))).bind fun bt145 => (if bt145.2 = 0 then (if (bt145.1.length : Int) > 1048320 then (some (([] : List Int), 2)) else ((frame_Frame.f bt145.1).bind fun bt149 => (some (bt149.1, bt149.2)))) else (some (([] : List Int), bt145.2)))))))) else (some (([] : List Int), 1)))
theorem snap_Save.mono : ∀ a0 a1 a2 a3 a4 a5 a6 a7 a8 a9 a10 k, LeO (snap_Save.f k a0 a1 a2 a3 a4 a5 a6 a7 a8 a9 a10) (snap_Save.f (k + 1) a0 a1 a2 a3 a4 a5 a6 a7 a8 a9 a10) := by
 intro a0 a1 a2 a3 a4 a5 a6 a7 a8 a9 a10 k
 unfold snap_Save.f
 repeat' first
   | (with_reducible exact code_Encode.mono _ _ _ _ _)
   | (with_reducible exact snap_can.mono _ _)
   | (with_reducible exact snap_members.mono _ _)
   | (with_reducible exact LeO.refl _)
   | (with_reducible exact LeO.none _)
   | (with_reducible refine LeO.ite ?_ ?_)
   | (with_reducible refine LeO.bind ?_ (fun _ => ?_))
   | exact code_Encode.mono _ _ _ _ _
   | exact snap_can.mono _ _
   | exact snap_members.mono _ _
   | exact LeO.none _
   | refine LeO.ite ?_ ?_
   | refine LeO.bind ?_ (fun _ => ?_)
def snap_Save.T5 : Bool × List (List Nat × List Nat) := (true, [([], []), ([0], [0]), ([1], [1]), ([], []), ([3], [3]), ([4, 2], [4]), ([], []), ([6], [6]), ([7, 5], [7]), ([], []), ([9], [9]), ([], []), ([11], [11]), ([2, 5, 8, 10, 12], [2, 5, 8, 10, 12]), ([13], [13]), ([14, 8], [14]), ([15], [15]), ([16], [16]), ([16], [16]), ([17, 15, 0, 1, 2, 3, 4, 5, 6, 7, 8, 9, 10, 11, 12, 13, 14, 15, 16, 17], [17]), ([18, 19, 0, 1, 2, 3, 4, 5, 6, 7, 8, 9, 10, 11, 12, 13, 14, 15, 16, 17, 18, 19], [18])])
def snap_Save.B5 : List Nat := [0, 1, 3, 0, 8, 31, 0, 64, 255, 0, 512, 0, 2048, 8191, 16383, 32767, 65535, 131071, 131071, 262143, 1048575]
theorem snap_Save.tab5 : rtab .any (opsOf Tryd.f9 5) = snap_Save.T5 := by kernel_rfl
theorem snap_Save.bits5 : waitsOk snap_Save.T5.2 snap_Save.B5 = true := by kernel_rfl
set_option maxHeartbeats 8000000 in
set_option maxRecDepth 100000 in
theorem snap_Save.calls (k : Nat) (a0_0 : Int) (a0_1 : Int) (A0_2 : Option Addr) (c0_2 : Nat) (l0_2 : List Int) (a0_3 : Int) (a0_4 : Int) (a0_5 : ByteArray) (P0_6_ : Nat → Prop) (A0_6 : Option Addr) (c0_6 : Nat) (l0_6 : List (S26)) (a0_7 : Int) (a0_8 : Int) (a0_9 : ByteArray) (P0_10_ : Nat → Prop) (A0_10 : Option Addr) (c0_10 : Nat) (l0_10 : List (S26)) (r1 : List Int) (r2 : Int) (w : World) (hr0_2 : Kd.C (Kd.int .i64) w A0_2 l0_2.length l0_2) (hc0_2 : l0_2.length ≤ c0_2) (hs0_6 : Kd.V k26 26 w w.heap.size (fun k_ => P0_6_ k_) (.slice A0_6 l0_6.length c0_6) l0_6) (hs0_10 : Kd.V k26 26 w w.heap.size (fun k_ => P0_10_ k_) (.slice A0_10 l0_10.length c0_10) l0_10) (hG : QuarterLaid w) (h : snap_Save.f k a0_0 a0_1 l0_2 a0_3 a0_4 a0_5 l0_6 a0_7 a0_8 a0_9 l0_10 = some (r1, r2)) :
  Calls Tryd.prog 9 #[.agg #[.int .u64 a0_0, .int .u64 a0_1, .slice A0_2 l0_2.length c0_2, .int .i64 a0_3, .int .u64 a0_4, .string a0_5, .slice A0_6 l0_6.length c0_6, .int .i64 a0_7, .int .u64 a0_8, .string a0_9, .slice A0_10 l0_10.length c0_10]] w fun e w' => ∃ v0_ : Value, e = .returned (.tuple #[v0_, .int .i64 r2]) ∧ Kd.R (Kd.int .u8) 5 w' w.heap.size (fun k_ => (w.heap.size ≤ k_)) v0_ r1 ∧ Below w.heap.size w w' := by
 have hu28 := Tryd.underlying28
 have hu26 := Tryd.underlying26
 have HR0_2 := am hr0_2
 have HC0_2 := am hc0_2
 clear hr0_2 hc0_2
 have HO0_6 := am (show Kd.V k26 26 w w.heap.size (fun k_ => ((P0_6_ k_ ∨ P0_10_ k_) ∨ w.heap.size ≤ k_)) (.slice A0_6 l0_6.length c0_6) l0_6 from Kd.V_mono hs0_6 (fun k_ hk => .inl (.inl hk)))
 have HO0_10 := am (show Kd.V k26 26 w w.heap.size (fun k_ => ((P0_6_ k_ ∨ P0_10_ k_) ∨ w.heap.size ≤ k_)) (.slice A0_10 l0_10.length c0_10) l0_10 from Kd.V_mono hs0_10 (fun k_ hk => .inl (.inr hk)))
 have HG := am hG
 clear hG
 have HB := am (Below.refl w.heap.size w)
 have H : ((snap_can.f k l0_2).bind fun t123 => (if t123 = true then (if a0_0 > 4611686018427387904 then (some (([] : List Int), 2)) else ((code_Number.f a0_0).bind fun bt124 => ((code_Number.f a0_1).bind fun bt130 => ((snap_members.f k l0_2).bind fun bt136 => ((code_Encode.f k 2 0 (⟨#[]⟩ : ByteArray) (([(⟨bt124.1, bt124.2.1, bt124.2.2.1, bt124.2.2.2⟩ : S26), (⟨bt130.1, bt130.2.1, bt130.2.2.1, bt130.2.2.2⟩ : S26), (⟨bt136.1, bt136.2.1, bt136.2.2.1, bt136.2.2.2⟩ : S26), (⟨a0_3, a0_4, a0_5, l0_6⟩ : S26), (⟨a0_7, a0_8, a0_9, l0_10⟩ : S26)] : List (S26)))).bind fun bt145 => (if bt145.2 = 0 then (if (bt145.1.length : Int) > 1048320 then (some (([] : List Int), 2)) else ((frame_Frame.f bt145.1).bind fun bt149 => (some (bt149.1, bt149.2)))) else (some (([] : List Int), bt145.2)))))))) else (some (([] : List Int), 1)))) = some (r1, r2) := h
 clear h
 replace H := Option.bind_eq_some_iff.mp H
 obtain ⟨t123, A20, H⟩ := H
 try dsimp only at H
 have A2 := am A20
 clear A20
 by_cases c3 : t123 = true
 ·subst c3
  rw [if_pos rfl] at H
  by_cases c4 : a0_0 > 4611686018427387904
  ·rw [if_pos c4] at H
   have c4b0 : decide (4611686018427387904 < a0_0) = true := decide_eq_true c4
   clear c4
   simp only [Option.some.injEq, Prod.mk.injEq] at H
   obtain ⟨rfl, rfl⟩ := H
   go_enter Tryd.func9, Tryd.ntmps9
   go_wp2_with (first | ((with_reducible refine gate_dst (N := 1) rfl ?_); refine box_event ?hg (N := 1) ?hd (cs := #[.int .u64 a0_0, .int .u64 a0_1, .slice A0_2 l0_2.length c0_2, .int .i64 a0_3, .int .u64 a0_4, .string a0_5, .slice A0_6 l0_6.length c0_6, .int .i64 a0_7, .int .u64 a0_8, .string a0_9, .slice A0_10 l0_10.length c0_10]) (t := 28) ?hr ?_; (case hd => rfl); (case hg => rfl); (case hr => first | (go_simp; done) | (go_simp; rfl)); intro gb122 hg w5 hbox hb; replace HO0_6 := am (Kd.V_below (Kd.V_elderB (pV HO0_6.out) gb122 (Nat.le_of_eq hg.symm)) hb); replace HO0_10 := am (Kd.V_below (Kd.V_elderB (pV HO0_10.out) gb122 (Nat.le_of_eq hg.symm)) hb); have BK122 := am (hbox); have GW122 := am ((by rw [hg]; exact (below_size pB) : w.heap.size ≤ gb122)); have GE122 := am ((by rw [hg]; exact (below_size pB) : w.heap.size ≤ gb122)); replace HB := am (below_step pB hb); clear hb hbox hg; have q6 := cf11 BK122.out) | ((with_reducible refine gate_callee (f := 26) rfl ?_); refine goesL_ (some 9) rfl rfl Tryd.func26 (by kernel_rfl) rfl #[.slice A0_2 l0_2.length c0_2] rfl pM ?_; (with_reducible refine (snap_can.calls k _ _ l0_2 true _ ?side1 ?side2 A2.out).mono ?_); (case side1 => exact pC (Kd.C_below HR0_2.out HB.out)); (case side2 => exact HC0_2.out); rintro e w' ⟨rfl, ⟨nd, rfl⟩⟩; refine ⟨_, rfl, ?_⟩))
   go_ret2
   exact ⟨_, pE, pZ, pB⟩
  ·rw [if_neg c4] at H
   have c4b0 : decide (4611686018427387904 < a0_0) = false := decide_eq_false c4
   clear c4
   replace H := Option.bind_eq_some_iff.mp H
   obtain ⟨⟨t124, t125, t126, t127⟩, A70, H⟩ := H
   try dsimp only at H
   have A7 := am A70
   clear A70
   replace H := Option.bind_eq_some_iff.mp H
   obtain ⟨⟨t130, t131, t132, t133⟩, A80, H⟩ := H
   try dsimp only at H
   have A8 := am A80
   clear A80
   replace H := Option.bind_eq_some_iff.mp H
   obtain ⟨⟨t136, t137, t138, t139⟩, A90, H⟩ := H
   try dsimp only at H
   have A9 := am A90
   clear A90
   obtain ⟨y142, hy142⟩ : ∃ y_ : List (S26), y_ = (([(⟨t124, t125, t126, t127⟩ : S26), (⟨t130, t131, t132, t133⟩ : S26), (⟨t136, t137, t138, t139⟩ : S26), (⟨a0_3, a0_4, a0_5, l0_6⟩ : S26), (⟨a0_7, a0_8, a0_9, l0_10⟩ : S26)] : List (S26))) := ⟨_, rfl⟩
   replace H : ((code_Encode.f k 2 0 (⟨#[]⟩ : ByteArray) y142).bind fun bt145 => (if bt145.2 = 0 then (if (bt145.1.length : Int) > 1048320 then (some (([] : List Int), 2)) else ((frame_Frame.f bt145.1).bind fun bt149 => (some (bt149.1, bt149.2)))) else (some (([] : List Int), bt145.2)))) = some (r1, r2) := by first | (rw [hy142]; with_reducible exact H) | (have H2_ := (Option.bind_some _ _).symm.trans H; rw [hy142]; with_reducible exact H2_) | (have H2_ := (Option.bind_some _ _).symm.trans H; with_reducible exact H2_) | with_reducible exact H | (rw [hy142]; exact H) | exact H
   have Ny142 := am hy142
   clear hy142
   replace H := Option.bind_eq_some_iff.mp H
   obtain ⟨⟨t145, t148⟩, A100, H⟩ := H
   try dsimp only at H
   have A10 := am A100
   clear A100
   by_cases c11 : t148 = 0
   ·rw [if_pos c11] at H
    have c11b0 : (t148 == 0) = true := beq_iff_eq.mpr c11
    have c11b1 : (t148 != 0) = false := bne_eq_false_iff_eq.mpr c11
    clear c11
    by_cases c12 : (t145.length : Int) > 1048320
    ·rw [if_pos c12] at H
     have c12b0 : decide (1048320 < (t145.length : Int)) = true := decide_eq_true c12
     have c12b1 : decide (1048320 < t145.length) = true := decide_eq_true (by omega)
     clear c12
     simp only [Option.some.injEq, Prod.mk.injEq] at H
     obtain ⟨rfl, rfl⟩ := H
     go_enter Tryd.func9, Tryd.ntmps9
     try go_wp2_with (first | ((with_reducible refine gate_dst (N := 1) rfl ?_); refine box_event ?hg (N := 1) ?hd (cs := #[.int .u64 a0_0, .int .u64 a0_1, .slice A0_2 l0_2.length c0_2, .int .i64 a0_3, .int .u64 a0_4, .string a0_5, .slice A0_6 l0_6.length c0_6, .int .i64 a0_7, .int .u64 a0_8, .string a0_9, .slice A0_10 l0_10.length c0_10]) (t := 28) ?hr ?_; (case hd => rfl); (case hg => rfl); (case hr => first | (go_simp; done) | (go_simp; rfl)); intro gb122 hg w13 hbox hb; replace HO0_6 := am (Kd.V_below (Kd.V_elderB (pV HO0_6.out) gb122 (Nat.le_of_eq hg.symm)) hb); replace HO0_10 := am (Kd.V_below (Kd.V_elderB (pV HO0_10.out) gb122 (Nat.le_of_eq hg.symm)) hb); have BK122 := am (hbox); have GW122 := am ((by rw [hg]; exact (below_size pB) : w.heap.size ≤ gb122)); have GE122 := am ((by rw [hg]; exact (below_size pB) : w.heap.size ≤ gb122)); replace HB := am (below_step pB hb); clear hb hbox hg; have q14 := cf11 BK122.out) | ((with_reducible refine gate_callee (f := 26) rfl ?_); refine goesL_ (some 9) rfl rfl Tryd.func26 (by kernel_rfl) rfl #[.slice A0_2 l0_2.length c0_2] rfl pM ?_; (with_reducible refine (snap_can.calls k _ _ l0_2 true _ ?side1 ?side2 A2.out).mono ?_); (case side1 => exact pC (Kd.C_below HR0_2.out HB.out)); (case side2 => exact HC0_2.out); rintro e w' ⟨rfl, ⟨nd, rfl⟩⟩; refine ⟨_, rfl, ?_⟩))
     (try (rw [drewN_self w13]; generalize hq_ : World.drewN w13 _ = w13; have n0_ : Aside0 (Kd.V k26 26 w13 w.heap.size (fun k_ => ((P0_6_ k_ ∨ P0_10_ k_) ∨ w.heap.size ≤ k_) ∧ k_ ≠ gb122) (.slice A0_10 l0_10.length c0_10) l0_10) := ⟨by rw [← hq_]; exact (pV HO0_10.out)⟩; have n1_ : Aside0 (Kd.V k26 26 w13 w.heap.size (fun k_ => ((P0_6_ k_ ∨ P0_10_ k_) ∨ w.heap.size ≤ k_) ∧ k_ ≠ gb122) (.slice A0_6 l0_6.length c0_6) l0_6) := ⟨by rw [← hq_]; exact (pV HO0_6.out)⟩; have n2_ : Aside0 (w13.heap[gb122]? = some (.cells #[.int .u64 a0_0, .int .u64 a0_1, .slice A0_2 l0_2.length c0_2, .int .i64 a0_3, .int .u64 a0_4, .string a0_5, .slice A0_6 l0_6.length c0_6, .int .i64 a0_7, .int .u64 a0_8, .string a0_9, .slice A0_10 l0_10.length c0_10] 28 (0, 0))) := ⟨by rw [← hq_]; exact (pK BK122.out)⟩; have n3_ : Aside0 (Below w.heap.size w w13) := ⟨by rw [← hq_]; exact pB⟩; clear HO0_10 HO0_6 BK122 HB hq_; have HO0_10 := n0_; have HO0_6 := n1_; have BK122 := n2_; have HB := n3_; clear n0_ n1_ n2_ n3_))
     replace HO0_6 := am (Kd.V_drew HO0_6.out)
     replace HO0_10 := am (Kd.V_drew HO0_10.out)
     replace BK122 := am (blk_drew BK122.out)
     replace HB := am (below_drew1 HB.out)
     refine start_ (n := 21) (S := fun w' => w'.cell? ⟨gb122, 0, none⟩ = some (.int .u64 a0_0) ∧ w'.cell? ⟨gb122, 1, none⟩ = some (.int .u64 a0_1) ∧ w'.cell? ⟨gb122, 2, none⟩ = some (.slice A0_2 l0_2.length c0_2) ∧ w'.cell? ⟨gb122, 3, none⟩ = some (.int .i64 a0_3) ∧ w'.cell? ⟨gb122, 4, none⟩ = some (.int .u64 a0_4) ∧ w'.cell? ⟨gb122, 5, none⟩ = some (.string a0_5) ∧ w'.cell? ⟨gb122, 6, none⟩ = some (.slice A0_6 l0_6.length c0_6) ∧ w'.cell? ⟨gb122, 7, none⟩ = some (.int .i64 a0_7) ∧ w'.cell? ⟨gb122, 8, none⟩ = some (.int .u64 a0_8) ∧ w'.cell? ⟨gb122, 9, none⟩ = some (.string a0_9) ∧ w'.cell? ⟨gb122, 10, none⟩ = some (.slice A0_10 l0_10.length c0_10)) (ds := []) (bm 21 0) (by kernel_rfl) rfl rfl ⟨cz0 BK122.out, cz1 BK122.out, cz2 BK122.out, cz3 BK122.out, cz4 BK122.out, cz5 BK122.out, cz6 BK122.out, cz7 BK122.out, cz8 BK122.out, cz9 BK122.out, cz10 BK122.out⟩ (fun hHeld => ?_); refine with_tabW snap_Save.tab5 snap_Save.bits5 (fun HT_ HW_ => ?_)
     generalize w13.drew = w15 at HO0_6 HO0_10 BK122 HB hHeld ⊢
     refine pure_ (i := 0) (N := some 16) (v := ?_) (a' := ?_) (bm 21 1) rfl rfl (any_of HT_.out (by kernel_rfl)) (fun _ _ _ h => h) (Or.inl ⟨by kernel_rfl, ?_⟩) ?_ ?_
     rotate_left
     ·intro w'
      go_simp
      with_reducible rfl
     rotate_left
     ·exact pA
     refine pure_ (i := 3) (N := some 19) (v := ?_) (a' := ?_) (bm 21 9) rfl rfl (any_of HT_.out (by kernel_rfl)) (fun _ _ _ h => h) (Or.inl ⟨by kernel_rfl, ?_⟩) ?_ ?_
     rotate_left
     ·intro w'
      go_simp
      with_reducible rfl
     rotate_left
     ·exact pA
     refine pure_ (i := 6) (N := some 22) (v := ?_) (a' := ?_) (bm 21 73) rfl rfl (any_of HT_.out (by kernel_rfl)) (fun _ _ _ h => h) (Or.inl ⟨by kernel_rfl, ?_⟩) ?_ ?_
     rotate_left
     ·intro w'
      go_simp
      with_reducible rfl
     rotate_left
     ·exact pA
     refine pure_ (i := 9) (N := some 25) (v := ?_) (a' := ?_) (bm 21 585) rfl rfl (any_of HT_.out (by kernel_rfl)) (fun _ _ _ h => h) (Or.inl ⟨by kernel_rfl, ?_⟩) ?_ ?_
     rotate_left
     ·intro w'
      go_simp
      with_reducible rfl
     rotate_left
     ·exact pA
     refine pure_ (i := 11) (N := some 27) (v := ?_) (a' := ?_) (bm 21 2633) rfl rfl (any_of HT_.out (by kernel_rfl)) (fun _ _ _ h => h) (Or.inl ⟨by kernel_rfl, ?_⟩) ?_ ?_
     rotate_left
     ·intro w'
      go_simp
      with_reducible rfl
     rotate_left
     ·exact pA
     refine take_ (i := 1) (N := some 17) (v := ?_) (a' := ?_) (bm 21 2635) rfl rfl (take_ofW HT_.out HW_.out (by kernel_rfl)) (fun _ _ _ h => h) (Or.inl ⟨by kernel_rfl, ?_⟩) hHeld ?_ ?_
     rotate_left
     ·rintro w' ⟨s0, s1, s2, s3, s4, s5, s6, s7, s8, s9, s10⟩
      go_simp
      with_reducible rfl
     rotate_left
     ·exact pA
     refine take_ (i := 4) (N := some 20) (v := ?_) (a' := ?_) (bm 21 2651) rfl rfl (take_ofW HT_.out HW_.out (by kernel_rfl)) (fun _ _ _ h => h) (Or.inl ⟨by kernel_rfl, ?_⟩) hHeld ?_ ?_
     rotate_left
     ·rintro w' ⟨s0, s1, s2, s3, s4, s5, s6, s7, s8, s9, s10⟩
      go_simp
      with_reducible rfl
     rotate_left
     ·exact pA
     refine take_ (i := 7) (N := some 23) (v := ?_) (a' := ?_) (bm 21 2779) rfl rfl (take_ofW HT_.out HW_.out (by kernel_rfl)) (fun _ _ _ h => h) (Or.inl ⟨by kernel_rfl, ?_⟩) hHeld ?_ ?_
     rotate_left
     ·rintro w' ⟨s0, s1, s2, s3, s4, s5, s6, s7, s8, s9, s10⟩
      go_simp
      with_reducible rfl
     rotate_left
     ·exact pA
     refine take_ (i := 10) (N := some 26) (v := ?_) (a' := ?_) (bm 21 3803) rfl rfl (take_ofW HT_.out HW_.out (by kernel_rfl)) (fun _ _ _ h => h) (Or.inl ⟨by kernel_rfl, ?_⟩) hHeld ?_ ?_
     rotate_left
     ·rintro w' ⟨s0, s1, s2, s3, s4, s5, s6, s7, s8, s9, s10⟩
      go_simp
      with_reducible rfl
     rotate_left
     ·exact pA
     refine take_ (i := 12) (N := some 28) (v := ?_) (a' := ?_) (bm 21 7899) rfl rfl (take_ofW HT_.out HW_.out (by kernel_rfl)) (fun _ _ _ h => h) (Or.inl ⟨by kernel_rfl, ?_⟩) hHeld ?_ ?_
     rotate_left
     ·rintro w' ⟨s0, s1, s2, s3, s4, s5, s6, s7, s8, s9, s10⟩
      go_simp
      with_reducible rfl
     rotate_left
     ·exact pA
     refine one_ (i := 2) (N := some 18) (bm 21 7903) rfl rfl (one_of HT_.out (by kernel_rfl)) (by decide) (fun K hK => ?_)
     refine goes_ Tryd.func28 (by kernel_rfl) rfl #[.int .u64 a0_0] (by rfl) rfl rfl pM ?_
     with_reducible refine (code_Number.calls a0_0 t124 t125 t126 t127 _ A7.out).mono ?_
     rintro e w16 ⟨v128, rfl, ho0, hb⟩
     refine ⟨_, rfl, ?_⟩
     have n0_ := am (Kd.V_elder' (pV HO0_6.out) (by first | exact Kd.R_base ho0 | exact Kd.N_base ho0) hb)
     have n1_ := am (Kd.V_elder' (pV HO0_10.out) (by first | exact Kd.R_base ho0 | exact Kd.N_base ho0) hb)
     have n2_ := am (Kd.N_lower (Kd.N_mono (ok' := fun k_ => ((P0_6_ k_ ∨ P0_10_ k_) ∨ w.heap.size ≤ k_) ∧ k_ ≠ gb122) (Kd.R_N (Kd.R_bound ho0)) (fun k_ hk_ => ⟨(.inr (Nat.le_trans (below_size pB) hk_.2.1)), (Kd.freshB (g := gb122) (o := .cells #[.int .u64 a0_0, .int .u64 a0_1, .slice A0_2 l0_2.length c0_2, .int .i64 a0_3, .int .u64 a0_4, .string a0_5, .slice A0_6 l0_6.length c0_6, .int .i64 a0_7, .int .u64 a0_8, .string a0_9, .slice A0_10 l0_10.length c0_10] 28 (0, 0)) (pK BK122.out) k_ hk_.2.1)⟩)) (below_size pB))
     have n3_ := am (pkb BK122.out hb)
     have n4_ := am (below_step pB hb)
     clear HO0_6 HO0_10 BK122 HB; have HO0_6 := n0_; have HO0_10 := n1_; have HO129 := n2_; have BK122 := n3_; have HB := n4_; clear n0_ n1_ n2_ n3_ n4_; (try clear hb); (try clear hb2); (try clear hk); (try clear hi); (try clear ho0)
     refine hK.out _ _ ⟨cz0 BK122.out, cz1 BK122.out, cz2 BK122.out, cz3 BK122.out, cz4 BK122.out, cz5 BK122.out, cz6 BK122.out, cz7 BK122.out, cz8 BK122.out, cz9 BK122.out, cz10 BK122.out⟩ (fun hHeld => ?_)
     clear hK K
     refine norm_ (a' := ?_) ?_ ?_
     rotate_left
     ·show Act.put _ (some 18) _ = _
      exact pA
     refine one_ (i := 5) (N := some 21) (bm 21 7935) rfl rfl (one_of HT_.out (by kernel_rfl)) (by decide) (fun K hK => ?_)
     refine goes_ Tryd.func28 (by kernel_rfl) rfl #[.int .u64 a0_1] (by rfl) rfl rfl pM ?_
     with_reducible refine (code_Number.calls a0_1 t130 t131 t132 t133 _ A8.out).mono ?_
     rintro e w17 ⟨v134, rfl, ho0, hb⟩
     refine ⟨_, rfl, ?_⟩
     have n0_ := am (Kd.V_elder' (pV HO0_6.out) (by first | exact Kd.R_base ho0 | exact Kd.N_base ho0) hb)
     have n1_ := am (Kd.V_elder' (pV HO0_10.out) (by first | exact Kd.R_base ho0 | exact Kd.N_base ho0) hb)
     have n2_ := am (Kd.N_elder' (pN HO129.out) (by first | exact Kd.R_base ho0 | exact Kd.N_base ho0) hb)
     have n3_ := am (Kd.N_lower (Kd.N_mono (ok' := fun k_ => ((P0_6_ k_ ∨ P0_10_ k_) ∨ w.heap.size ≤ k_) ∧ some k_ ≠ (v128 : Value).ownBlock ∧ k_ ≠ gb122) (Kd.R_N (Kd.R_bound ho0)) (fun k_ hk_ => ⟨(.inr (Nat.le_trans (below_size pB) hk_.2.1)), (Kd.fresh' (Kd.N_lt (pN HO129.out)) k_ hk_.2.1), (Kd.freshB (g := gb122) (o := .cells #[.int .u64 a0_0, .int .u64 a0_1, .slice A0_2 l0_2.length c0_2, .int .i64 a0_3, .int .u64 a0_4, .string a0_5, .slice A0_6 l0_6.length c0_6, .int .i64 a0_7, .int .u64 a0_8, .string a0_9, .slice A0_10 l0_10.length c0_10] 28 (0, 0)) (pK BK122.out) k_ hk_.2.1)⟩)) (below_size pB))
     have n4_ := am (pkb BK122.out hb)
     have n5_ := am (below_step pB hb)
     clear HO0_6 HO0_10 HO129 BK122 HB; have HO0_6 := n0_; have HO0_10 := n1_; have HO129 := n2_; have HO135 := n3_; have BK122 := n4_; have HB := n5_; clear n0_ n1_ n2_ n3_ n4_ n5_; (try clear hb); (try clear hb2); (try clear hk); (try clear hi); (try clear ho0)
     refine hK.out _ _ ⟨cz0 BK122.out, cz1 BK122.out, cz2 BK122.out, cz3 BK122.out, cz4 BK122.out, cz5 BK122.out, cz6 BK122.out, cz7 BK122.out, cz8 BK122.out, cz9 BK122.out, cz10 BK122.out⟩ (fun hHeld => ?_)
     clear hK K
     refine norm_ (a' := ?_) ?_ ?_
     rotate_left
     ·show Act.put _ (some 21) _ = _
      exact pA
     refine one_ (i := 8) (N := some 24) (bm 21 8191) rfl rfl (one_of HT_.out (by kernel_rfl)) (by decide) (fun K hK => ?_)
     refine goes_ Tryd.func29 (by kernel_rfl) rfl #[.slice A0_2 l0_2.length c0_2] (by rfl) rfl rfl pM ?_
     with_reducible refine (snap_members.calls k _ _ l0_2 t136 t137 t138 t139 _ ?side1 ?side2 A9.out).mono ?_
     (case side1 => exact pC (Kd.C_below HR0_2.out HB.out))
     (case side2 => exact HC0_2.out)
     rintro e w18 ⟨v140, rfl, ho0, hb⟩
     refine ⟨_, rfl, ?_⟩
     have n0_ := am (Kd.V_elder' (pV HO0_6.out) (by first | exact Kd.R_base ho0 | exact Kd.N_base ho0) hb)
     have n1_ := am (Kd.V_elder' (pV HO0_10.out) (by first | exact Kd.R_base ho0 | exact Kd.N_base ho0) hb)
     have n2_ := am (Kd.N_elder' (pN HO129.out) (by first | exact Kd.R_base ho0 | exact Kd.N_base ho0) hb)
     have n3_ := am (Kd.N_elder' (pN HO135.out) (by first | exact Kd.R_base ho0 | exact Kd.N_base ho0) hb)
     have n4_ := am (Kd.N_lower (Kd.N_mono (ok' := fun k_ => ((P0_6_ k_ ∨ P0_10_ k_) ∨ w.heap.size ≤ k_) ∧ some k_ ≠ (v128 : Value).ownBlock ∧ some k_ ≠ (v134 : Value).ownBlock ∧ k_ ≠ gb122) (Kd.R_N (Kd.R_bound ho0)) (fun k_ hk_ => ⟨(.inr (Nat.le_trans (below_size pB) hk_.2.1)), (Kd.fresh' (Kd.N_lt (pN HO129.out)) k_ hk_.2.1), (Kd.fresh' (Kd.N_lt (pN HO135.out)) k_ hk_.2.1), (Kd.freshB (g := gb122) (o := .cells #[.int .u64 a0_0, .int .u64 a0_1, .slice A0_2 l0_2.length c0_2, .int .i64 a0_3, .int .u64 a0_4, .string a0_5, .slice A0_6 l0_6.length c0_6, .int .i64 a0_7, .int .u64 a0_8, .string a0_9, .slice A0_10 l0_10.length c0_10] 28 (0, 0)) (pK BK122.out) k_ hk_.2.1)⟩)) (below_size pB))
     have n5_ := am (pkb BK122.out hb)
     have n6_ := am (below_step pB hb)
     clear HO0_6 HO0_10 HO129 HO135 BK122 HB; have HO0_6 := n0_; have HO0_10 := n1_; have HO129 := n2_; have HO135 := n3_; have HO141 := n4_; have BK122 := n5_; have HB := n6_; clear n0_ n1_ n2_ n3_ n4_ n5_ n6_; (try clear hb); (try clear hb2); (try clear hk); (try clear hi); (try clear ho0)
     obtain ⟨Ao19, co19, eo19⟩ := Kd.N_slice HO129.out
     (first | subst eo19 | (injection eo19 with f1_ f2_ f3_; have f4_ := f1_.symm; have f5_ := f3_.symm; clear f1_ f2_ f3_; subst f4_; subst f5_))
     obtain ⟨Ao20, co20, eo20⟩ := Kd.N_slice HO135.out
     (first | subst eo20 | (injection eo20 with f1_ f2_ f3_; have f4_ := f1_.symm; have f5_ := f3_.symm; clear f1_ f2_ f3_; subst f4_; subst f5_))
     obtain ⟨Ao21, co21, eo21⟩ := Kd.N_slice HO141.out
     (first | subst eo21 | (injection eo21 with f1_ f2_ f3_; have f4_ := f1_.symm; have f5_ := f3_.symm; clear f1_ f2_ f3_; subst f4_; subst f5_))
     refine hK.out _ _ ⟨cz0 BK122.out, cz1 BK122.out, cz2 BK122.out, cz3 BK122.out, cz4 BK122.out, cz5 BK122.out, cz6 BK122.out, cz7 BK122.out, cz8 BK122.out, cz9 BK122.out, cz10 BK122.out⟩ (fun hHeld => ?_)
     clear hK K
     refine norm_ (a' := ?_) ?_ ?_
     rotate_left
     ·show Act.put _ (some 24) _ = _
      exact pA
     refine one_ (i := 13) (N := some 29) (bm 21 16383) rfl rfl (one_of HT_.out (by kernel_rfl)) (by decide) (fun K hK => ?_)
     refine Kd.N_lit_step k26 _ 26 ?hg (N' := 29) ?hd (xs := ([(⟨t124, t125, t126, t127⟩ : S26), (⟨t130, t131, t132, t133⟩ : S26), (⟨t136, t137, t138, t139⟩ : S26), (⟨a0_3, a0_4, a0_5, l0_6⟩ : S26), (⟨a0_7, a0_8, a0_9, l0_10⟩ : S26)] : List (S26))) (inner := [.int .i64 t124, .int .u64 t125, .string t126, .slice Ao19 t127.length co19, .int .i64 t130, .int .u64 t131, .string t132, .slice Ao20 t133.length co20, .int .i64 t136, .int .u64 t137, .string t138, .slice Ao21 t139.length co21, .int .i64 a0_3, .int .u64 a0_4, .string a0_5, .slice A0_6 l0_6.length c0_6, .int .i64 a0_7, .int .u64 a0_8, .string a0_9, .slice A0_10 l0_10.length c0_10]) (ok := (fun k_ => ((P0_6_ k_ ∨ P0_10_ k_) ∨ w.heap.size ≤ k_) ∧ k_ ≠ gb122)) (okp := (fun k_ => ((P0_6_ k_ ∨ P0_10_ k_) ∨ w.heap.size ≤ k_) ∧ k_ ≠ gb122)) ?hr ?hp (fun _ hk => hk) ((show ∀ k_, w18.heap.size ≤ k_ → (fun k_ => ((P0_6_ k_ ∨ P0_10_ k_) ∨ w.heap.size ≤ k_) ∧ k_ ≠ gb122) k_ from fun k_ hk => ⟨(.inr (Nat.le_trans (below_size pB) hk)), Kd.freshB (g := gb122) (o := .cells #[.int .u64 a0_0, .int .u64 a0_1, .slice A0_2 l0_2.length c0_2, .int .i64 a0_3, .int .u64 a0_4, .string a0_5, .slice A0_6 l0_6.length c0_6, .int .i64 a0_7, .int .u64 a0_8, .string a0_9, .slice A0_10 l0_10.length c0_10] 28 (0, 0)) (pK BK122.out) k_ hk⟩) _ (Nat.le_refl _)) (Below.refl _ _) (Nat.le_refl _) (by simp) ?_; (case hd => rfl); (case hg => rfl); (case hr => first | (go_simp; done) | (go_simp; rfl)); (case hp => exact (Reps.c4 (show Kd.FK k26 _ _ (⟨t124, t125, t126, t127⟩ : S26) [.int .i64 t124, .int .u64 t125, .string t126, .slice Ao19 t127.length co19] from (k26_mkF _ _ (⟨t124, t125, t126, t127⟩ : S26) (Kd.N_reads' (Kd.N_mono (ok' := (fun k_ => ((P0_6_ k_ ∨ P0_10_ k_) ∨ w.heap.size ≤ k_) ∧ k_ ≠ gb122)) (HO129.out) (fun k_ hk => ⟨hk.1.1.1, hk.1.1.2⟩))).2.1 (Kd.N_F (Kd.N_mono (ok' := (fun k_ => ((P0_6_ k_ ∨ P0_10_ k_) ∨ w.heap.size ≤ k_) ∧ k_ ≠ gb122)) (HO129.out) (fun k_ hk => ⟨hk.1.1.1, hk.1.1.2⟩))))) (Reps.c4 (show Kd.FK k26 _ _ (⟨t130, t131, t132, t133⟩ : S26) [.int .i64 t130, .int .u64 t131, .string t132, .slice Ao20 t133.length co20] from (k26_mkF _ _ (⟨t130, t131, t132, t133⟩ : S26) (Kd.N_reads' (Kd.N_mono (ok' := (fun k_ => ((P0_6_ k_ ∨ P0_10_ k_) ∨ w.heap.size ≤ k_) ∧ k_ ≠ gb122)) (HO135.out) (fun k_ hk => ⟨hk.1.1, hk.1.2.2⟩))).2.1 (Kd.N_F (Kd.N_mono (ok' := (fun k_ => ((P0_6_ k_ ∨ P0_10_ k_) ∨ w.heap.size ≤ k_) ∧ k_ ≠ gb122)) (HO135.out) (fun k_ hk => ⟨hk.1.1, hk.1.2.2⟩))))) (Reps.c4 (show Kd.FK k26 _ _ (⟨t136, t137, t138, t139⟩ : S26) [.int .i64 t136, .int .u64 t137, .string t138, .slice Ao21 t139.length co21] from (k26_mkF _ _ (⟨t136, t137, t138, t139⟩ : S26) (Kd.N_reads' (Kd.N_mono (ok' := (fun k_ => ((P0_6_ k_ ∨ P0_10_ k_) ∨ w.heap.size ≤ k_) ∧ k_ ≠ gb122)) (HO141.out) (fun k_ hk => ⟨hk.1, hk.2.2.2⟩))).2.1 (Kd.N_F (Kd.N_mono (ok' := (fun k_ => ((P0_6_ k_ ∨ P0_10_ k_) ∨ w.heap.size ≤ k_) ∧ k_ ≠ gb122)) (HO141.out) (fun k_ hk => ⟨hk.1, hk.2.2.2⟩))))) (Reps.c4 (show Kd.FK k26 _ _ (⟨a0_3, a0_4, a0_5, l0_6⟩ : S26) [.int .i64 a0_3, .int .u64 a0_4, .string a0_5, .slice A0_6 l0_6.length c0_6] from (k26_mkF _ _ (⟨a0_3, a0_4, a0_5, l0_6⟩ : S26) (Kd.V_reads' (Kd.V_mono (ok' := (fun k_ => ((P0_6_ k_ ∨ P0_10_ k_) ∨ w.heap.size ≤ k_) ∧ k_ ≠ gb122)) (HO0_6.out) (fun k_ hk => ⟨hk.1.1.1.1, hk.1.1.1.2⟩))).2.1 (Kd.V_F (Kd.V_mono (ok' := (fun k_ => ((P0_6_ k_ ∨ P0_10_ k_) ∨ w.heap.size ≤ k_) ∧ k_ ≠ gb122)) (HO0_6.out) (fun k_ hk => ⟨hk.1.1.1.1, hk.1.1.1.2⟩))))) (Reps.c4 (show Kd.FK k26 _ _ (⟨a0_7, a0_8, a0_9, l0_10⟩ : S26) [.int .i64 a0_7, .int .u64 a0_8, .string a0_9, .slice A0_10 l0_10.length c0_10] from (k26_mkF _ _ (⟨a0_7, a0_8, a0_9, l0_10⟩ : S26) (Kd.V_reads' (Kd.V_mono (ok' := (fun k_ => ((P0_6_ k_ ∨ P0_10_ k_) ∨ w.heap.size ≤ k_) ∧ k_ ≠ gb122)) (HO0_10.out) (fun k_ hk => ⟨hk.1.1.1.1, hk.1.1.1.2⟩))).2.1 (Kd.V_F (Kd.V_mono (ok' := (fun k_ => ((P0_6_ k_ ∨ P0_10_ k_) ∨ w.heap.size ≤ k_) ∧ k_ ≠ gb122)) (HO0_10.out) (fun k_ hk => ⟨hk.1.1.1.1, hk.1.1.1.2⟩))))) (Reps.none _ _)))))))
     intro v143 w22 ho23 hb hg_ hnew_
     clear hg_ hnew_
     (first | rw [← Ny142.out] at ho23 | (simp only [Int.reduceToNat] at ho23; rw [← Ny142.out] at ho23))
     have n0_ := am (Kd.V_elder' (pV HO0_6.out) (by first | exact Kd.R_base ho23 | exact Kd.N_base ho23) hb)
     have n1_ := am (Kd.V_elder' (pV HO0_10.out) (by first | exact Kd.R_base ho23 | exact Kd.N_base ho23) hb)
     have n2_ := am (Kd.N_lower ho23 (below_size pB))
     have n3_ := am (pkb BK122.out hb)
     have n4_ := am (below_step pB hb)
     clear HO0_6 HO0_10 BK122 HB HO129 HO135 HO141; have HO0_6 := n0_; have HO0_10 := n1_; have HO144 := n2_; have BK122 := n3_; have HB := n4_; clear n0_ n1_ n2_ n3_ n4_ hb ho23
     obtain ⟨Ao24, co24, eo24⟩ := Kd.N_slice HO144.out
     (first | subst eo24 | (injection eo24 with f1_ f2_ f3_; have f4_ := f1_.symm; have f5_ := f3_.symm; clear f1_ f2_ f3_; subst f4_; subst f5_))
     refine hK.out _ _ ⟨cz0 BK122.out, cz1 BK122.out, cz2 BK122.out, cz3 BK122.out, cz4 BK122.out, cz5 BK122.out, cz6 BK122.out, cz7 BK122.out, cz8 BK122.out, cz9 BK122.out, cz10 BK122.out⟩ (fun hHeld => ?_)
     clear hK K
     refine norm_ (a' := ?_) ?_ ?_
     rotate_left
     ·show Act.put _ (some 29) _ = _
      exact pA
     refine pure_ (i := 14) (N := some 30) (v := ?_) (a' := ?_) (bm 21 32767) rfl rfl (any_of HT_.out (by kernel_rfl)) (fun _ _ _ h => h) (Or.inl ⟨by kernel_rfl, ?_⟩) ?_ ?_
     rotate_left
     ·intro w'
      go_simp
      with_reducible rfl
     rotate_left
     ·exact pA
     refine one_ (i := 15) (N := some 31) (bm 21 65535) rfl rfl (one_of HT_.out (by kernel_rfl)) (by decide) (fun K hK => ?_)
     refine goes_ Tryd.func27 (by kernel_rfl) rfl #[.agg #[.int .i64 2, .int .u64 0, .string (⟨#[]⟩ : ByteArray), .slice Ao24 y142.length co24]] (by rfl) rfl rfl pM ?_
     with_reducible refine (code_Encode.calls k 2 0 (⟨#[]⟩ : ByteArray) _ _ y142 t145 t148 _ ?side1 ?side2 A10.out).mono ?_
     (case side1 => repeat (first | exact (Kd.N_reads' HO144.out).2.2 | (with_reducible refine Kd.C_alloc ?_ _) | (with_reducible refine Kd.C_drewN ?_ _) | (with_reducible refine Kd.C_drew ?_)))
     (case side2 => exact (Kd.N_reads' HO144.out).2.1)
     rintro e w25 ⟨v146, rfl, ho0, hb⟩
     refine ⟨_, rfl, ?_⟩
     have n0_ := am (Kd.V_below (pV HO0_6.out) hb)
     have n1_ := am (Kd.V_below (pV HO0_10.out) hb)
     have n2_ := am (Kd.N_below (pN HO144.out) hb)
     have n3_ := am (Kd.V_lower (Kd.V_mono (ok' := fun k_ => ((P0_6_ k_ ∨ P0_10_ k_) ∨ w.heap.size ≤ k_) ∧ some k_ ≠ (.slice Ao24 y142.length co24 : Value).ownBlock ∧ k_ ≠ gb122) ho0 (fun k_ hk_ => ⟨(.inr (Nat.le_trans (below_size pB) hk_)), (Kd.fresh' (Kd.N_lt (pN HO144.out)) k_ hk_), (Kd.freshB (g := gb122) (o := .cells #[.int .u64 a0_0, .int .u64 a0_1, .slice A0_2 l0_2.length c0_2, .int .i64 a0_3, .int .u64 a0_4, .string a0_5, .slice A0_6 l0_6.length c0_6, .int .i64 a0_7, .int .u64 a0_8, .string a0_9, .slice A0_10 l0_10.length c0_10] 28 (0, 0)) (pK BK122.out) k_ hk_)⟩)) (below_size pB))
     have n4_ := am (pkb BK122.out hb)
     have n5_ := am (below_step pB hb)
     clear HO0_6 HO0_10 HO144 BK122 HB; have HO0_6 := n0_; have HO0_10 := n1_; have HO144 := n2_; have HO147 := n3_; have BK122 := n4_; have HB := n5_; clear n0_ n1_ n2_ n3_ n4_ n5_; (try clear hb); (try clear hb2); (try clear hk); (try clear hi); (try clear ho0)
     refine hK.out _ _ ⟨cz0 BK122.out, cz1 BK122.out, cz2 BK122.out, cz3 BK122.out, cz4 BK122.out, cz5 BK122.out, cz6 BK122.out, cz7 BK122.out, cz8 BK122.out, cz9 BK122.out, cz10 BK122.out⟩ (fun hHeld => ?_)
     clear hK K
     refine norm_ (a' := ?_) ?_ ?_
     rotate_left
     ·show Act.put _ (some 31) _ = _
      exact pA
     refine pure_ (i := 16) (N := some 15) (v := ?_) (a' := ?_) (bm 21 131071) rfl rfl (any_of HT_.out (by kernel_rfl)) (fun _ _ _ h => h) (Or.inl ⟨by kernel_rfl, ?_⟩) ?_ ?_
     rotate_left
     ·intro w'
      go_simp
      with_reducible rfl
     rotate_left
     ·exact pA
     refine pure_ (i := 17) (N := some 32) (v := ?_) (a' := ?_) (bm 21 262143) rfl rfl (any_of HT_.out (by kernel_rfl)) (fun _ _ _ h => h) (Or.inl ⟨by kernel_rfl, ?_⟩) ?_ ?_
     rotate_left
     ·intro w'
      go_simp
      with_reducible rfl
     rotate_left
     ·exact pA
     refine pure_ (i := 18) (N := some 33) (v := ?_) (a' := ?_) (bm 21 524287) rfl rfl (any_of HT_.out (by kernel_rfl)) (fun _ _ _ h => h) (Or.inl ⟨by kernel_rfl, ?_⟩) ?_ ?_
     rotate_left
     ·intro w'
      go_simp
      with_reducible rfl
     rotate_left
     ·exact pA
     refine pure_ (i := 19) (N := some 4) (v := ?_) (a' := ?_) (bm 21 1048575) rfl rfl (any_of HT_.out (by kernel_rfl)) (fun _ _ _ h => h) (Or.inl ⟨by kernel_rfl, ?_⟩) ?_ ?_
     rotate_left
     ·intro w'
      go_simp
      with_reducible rfl
     rotate_left
     ·exact pA
     refine pure_ (i := 20) (N := some 5) (v := ?_) (a' := ?_) (bm 21 2097151) rfl rfl (any_of HT_.out (by kernel_rfl)) (fun _ _ _ h => h) (Or.inl ⟨by kernel_rfl, ?_⟩) ?_ ?_
     rotate_left
     ·intro w'
      go_simp
      with_reducible rfl
     rotate_left
     ·exact pA
     refine done_ (done_of HT_.out (by kernel_rfl)) ?_
     obtain ⟨Ao26, co26, eo26⟩ := Kd.V_slice HO147.out
     subst eo26
     try go_wp2
     go_ret2
     exact ⟨_, pE, pZ, pB⟩
    ·rw [if_neg c12] at H
     have c12b0 : decide (1048320 < (t145.length : Int)) = false := decide_eq_false c12
     have c12b1 : decide (1048320 < t145.length) = false := decide_eq_false (by omega)
     clear c12
     replace H := Option.bind_eq_some_iff.mp H
     obtain ⟨⟨t149, t150⟩, A270, H⟩ := H
     try dsimp only at H
     have A27 := am A270
     clear A270
     simp only [Option.some.injEq, Prod.mk.injEq] at H
     obtain ⟨rfl, rfl⟩ := H
     go_enter Tryd.func9, Tryd.ntmps9
     try go_wp2_with (first | ((with_reducible refine gate_dst (N := 1) rfl ?_); refine box_event ?hg (N := 1) ?hd (cs := #[.int .u64 a0_0, .int .u64 a0_1, .slice A0_2 l0_2.length c0_2, .int .i64 a0_3, .int .u64 a0_4, .string a0_5, .slice A0_6 l0_6.length c0_6, .int .i64 a0_7, .int .u64 a0_8, .string a0_9, .slice A0_10 l0_10.length c0_10]) (t := 28) ?hr ?_; (case hd => rfl); (case hg => rfl); (case hr => first | (go_simp; done) | (go_simp; rfl)); intro gb122 hg w28 hbox hb; replace HO0_6 := am (Kd.V_below (Kd.V_elderB (pV HO0_6.out) gb122 (Nat.le_of_eq hg.symm)) hb); replace HO0_10 := am (Kd.V_below (Kd.V_elderB (pV HO0_10.out) gb122 (Nat.le_of_eq hg.symm)) hb); have BK122 := am (hbox); have GW122 := am ((by rw [hg]; exact (below_size pB) : w.heap.size ≤ gb122)); have GE122 := am ((by rw [hg]; exact (below_size pB) : w.heap.size ≤ gb122)); replace HB := am (below_step pB hb); clear hb hbox hg; have q29 := cf11 BK122.out) | ((with_reducible refine gate_callee (f := 26) rfl ?_); refine goesL_ (some 9) rfl rfl Tryd.func26 (by kernel_rfl) rfl #[.slice A0_2 l0_2.length c0_2] rfl pM ?_; (with_reducible refine (snap_can.calls k _ _ l0_2 true _ ?side1 ?side2 A2.out).mono ?_); (case side1 => exact pC (Kd.C_below HR0_2.out HB.out)); (case side2 => exact HC0_2.out); rintro e w' ⟨rfl, ⟨nd, rfl⟩⟩; refine ⟨_, rfl, ?_⟩))
     (try (rw [drewN_self w28]; generalize hq_ : World.drewN w28 _ = w28; have n0_ : Aside0 (Kd.V k26 26 w28 w.heap.size (fun k_ => ((P0_6_ k_ ∨ P0_10_ k_) ∨ w.heap.size ≤ k_) ∧ k_ ≠ gb122) (.slice A0_10 l0_10.length c0_10) l0_10) := ⟨by rw [← hq_]; exact (pV HO0_10.out)⟩; have n1_ : Aside0 (Kd.V k26 26 w28 w.heap.size (fun k_ => ((P0_6_ k_ ∨ P0_10_ k_) ∨ w.heap.size ≤ k_) ∧ k_ ≠ gb122) (.slice A0_6 l0_6.length c0_6) l0_6) := ⟨by rw [← hq_]; exact (pV HO0_6.out)⟩; have n2_ : Aside0 (w28.heap[gb122]? = some (.cells #[.int .u64 a0_0, .int .u64 a0_1, .slice A0_2 l0_2.length c0_2, .int .i64 a0_3, .int .u64 a0_4, .string a0_5, .slice A0_6 l0_6.length c0_6, .int .i64 a0_7, .int .u64 a0_8, .string a0_9, .slice A0_10 l0_10.length c0_10] 28 (0, 0))) := ⟨by rw [← hq_]; exact (pK BK122.out)⟩; have n3_ : Aside0 (Below w.heap.size w w28) := ⟨by rw [← hq_]; exact pB⟩; clear HO0_10 HO0_6 BK122 HB hq_; have HO0_10 := n0_; have HO0_6 := n1_; have BK122 := n2_; have HB := n3_; clear n0_ n1_ n2_ n3_))
     replace HO0_6 := am (Kd.V_drew HO0_6.out)
     replace HO0_10 := am (Kd.V_drew HO0_10.out)
     replace BK122 := am (blk_drew BK122.out)
     replace HB := am (below_drew1 HB.out)
     refine start_ (n := 21) (S := fun w' => w'.cell? ⟨gb122, 0, none⟩ = some (.int .u64 a0_0) ∧ w'.cell? ⟨gb122, 1, none⟩ = some (.int .u64 a0_1) ∧ w'.cell? ⟨gb122, 2, none⟩ = some (.slice A0_2 l0_2.length c0_2) ∧ w'.cell? ⟨gb122, 3, none⟩ = some (.int .i64 a0_3) ∧ w'.cell? ⟨gb122, 4, none⟩ = some (.int .u64 a0_4) ∧ w'.cell? ⟨gb122, 5, none⟩ = some (.string a0_5) ∧ w'.cell? ⟨gb122, 6, none⟩ = some (.slice A0_6 l0_6.length c0_6) ∧ w'.cell? ⟨gb122, 7, none⟩ = some (.int .i64 a0_7) ∧ w'.cell? ⟨gb122, 8, none⟩ = some (.int .u64 a0_8) ∧ w'.cell? ⟨gb122, 9, none⟩ = some (.string a0_9) ∧ w'.cell? ⟨gb122, 10, none⟩ = some (.slice A0_10 l0_10.length c0_10)) (ds := []) (bm 21 0) (by kernel_rfl) rfl rfl ⟨cz0 BK122.out, cz1 BK122.out, cz2 BK122.out, cz3 BK122.out, cz4 BK122.out, cz5 BK122.out, cz6 BK122.out, cz7 BK122.out, cz8 BK122.out, cz9 BK122.out, cz10 BK122.out⟩ (fun hHeld => ?_); refine with_tabW snap_Save.tab5 snap_Save.bits5 (fun HT_ HW_ => ?_)
     generalize w28.drew = w30 at HO0_6 HO0_10 BK122 HB hHeld ⊢
     refine pure_ (i := 0) (N := some 16) (v := ?_) (a' := ?_) (bm 21 1) rfl rfl (any_of HT_.out (by kernel_rfl)) (fun _ _ _ h => h) (Or.inl ⟨by kernel_rfl, ?_⟩) ?_ ?_
     rotate_left
     ·intro w'
      go_simp
      with_reducible rfl
     rotate_left
     ·exact pA
     refine pure_ (i := 3) (N := some 19) (v := ?_) (a' := ?_) (bm 21 9) rfl rfl (any_of HT_.out (by kernel_rfl)) (fun _ _ _ h => h) (Or.inl ⟨by kernel_rfl, ?_⟩) ?_ ?_
     rotate_left
     ·intro w'
      go_simp
      with_reducible rfl
     rotate_left
     ·exact pA
     refine pure_ (i := 6) (N := some 22) (v := ?_) (a' := ?_) (bm 21 73) rfl rfl (any_of HT_.out (by kernel_rfl)) (fun _ _ _ h => h) (Or.inl ⟨by kernel_rfl, ?_⟩) ?_ ?_
     rotate_left
     ·intro w'
      go_simp
      with_reducible rfl
     rotate_left
     ·exact pA
     refine pure_ (i := 9) (N := some 25) (v := ?_) (a' := ?_) (bm 21 585) rfl rfl (any_of HT_.out (by kernel_rfl)) (fun _ _ _ h => h) (Or.inl ⟨by kernel_rfl, ?_⟩) ?_ ?_
     rotate_left
     ·intro w'
      go_simp
      with_reducible rfl
     rotate_left
     ·exact pA
     refine pure_ (i := 11) (N := some 27) (v := ?_) (a' := ?_) (bm 21 2633) rfl rfl (any_of HT_.out (by kernel_rfl)) (fun _ _ _ h => h) (Or.inl ⟨by kernel_rfl, ?_⟩) ?_ ?_
     rotate_left
     ·intro w'
      go_simp
      with_reducible rfl
     rotate_left
     ·exact pA
     refine take_ (i := 1) (N := some 17) (v := ?_) (a' := ?_) (bm 21 2635) rfl rfl (take_ofW HT_.out HW_.out (by kernel_rfl)) (fun _ _ _ h => h) (Or.inl ⟨by kernel_rfl, ?_⟩) hHeld ?_ ?_
     rotate_left
     ·rintro w' ⟨s0, s1, s2, s3, s4, s5, s6, s7, s8, s9, s10⟩
      go_simp
      with_reducible rfl
     rotate_left
     ·exact pA
     refine take_ (i := 4) (N := some 20) (v := ?_) (a' := ?_) (bm 21 2651) rfl rfl (take_ofW HT_.out HW_.out (by kernel_rfl)) (fun _ _ _ h => h) (Or.inl ⟨by kernel_rfl, ?_⟩) hHeld ?_ ?_
     rotate_left
     ·rintro w' ⟨s0, s1, s2, s3, s4, s5, s6, s7, s8, s9, s10⟩
      go_simp
      with_reducible rfl
     rotate_left
     ·exact pA
     refine take_ (i := 7) (N := some 23) (v := ?_) (a' := ?_) (bm 21 2779) rfl rfl (take_ofW HT_.out HW_.out (by kernel_rfl)) (fun _ _ _ h => h) (Or.inl ⟨by kernel_rfl, ?_⟩) hHeld ?_ ?_
     rotate_left
     ·rintro w' ⟨s0, s1, s2, s3, s4, s5, s6, s7, s8, s9, s10⟩
      go_simp
      with_reducible rfl
     rotate_left
     ·exact pA
     refine take_ (i := 10) (N := some 26) (v := ?_) (a' := ?_) (bm 21 3803) rfl rfl (take_ofW HT_.out HW_.out (by kernel_rfl)) (fun _ _ _ h => h) (Or.inl ⟨by kernel_rfl, ?_⟩) hHeld ?_ ?_
     rotate_left
     ·rintro w' ⟨s0, s1, s2, s3, s4, s5, s6, s7, s8, s9, s10⟩
      go_simp
      with_reducible rfl
     rotate_left
     ·exact pA
     refine take_ (i := 12) (N := some 28) (v := ?_) (a' := ?_) (bm 21 7899) rfl rfl (take_ofW HT_.out HW_.out (by kernel_rfl)) (fun _ _ _ h => h) (Or.inl ⟨by kernel_rfl, ?_⟩) hHeld ?_ ?_
     rotate_left
     ·rintro w' ⟨s0, s1, s2, s3, s4, s5, s6, s7, s8, s9, s10⟩
      go_simp
      with_reducible rfl
     rotate_left
     ·exact pA
     refine one_ (i := 2) (N := some 18) (bm 21 7903) rfl rfl (one_of HT_.out (by kernel_rfl)) (by decide) (fun K hK => ?_)
     refine goes_ Tryd.func28 (by kernel_rfl) rfl #[.int .u64 a0_0] (by rfl) rfl rfl pM ?_
     with_reducible refine (code_Number.calls a0_0 t124 t125 t126 t127 _ A7.out).mono ?_
     rintro e w31 ⟨v128, rfl, ho0, hb⟩
     refine ⟨_, rfl, ?_⟩
     have n0_ := am (Kd.V_elder' (pV HO0_6.out) (by first | exact Kd.R_base ho0 | exact Kd.N_base ho0) hb)
     have n1_ := am (Kd.V_elder' (pV HO0_10.out) (by first | exact Kd.R_base ho0 | exact Kd.N_base ho0) hb)
     have n2_ := am (Kd.N_lower (Kd.N_mono (ok' := fun k_ => ((P0_6_ k_ ∨ P0_10_ k_) ∨ w.heap.size ≤ k_) ∧ k_ ≠ gb122) (Kd.R_N (Kd.R_bound ho0)) (fun k_ hk_ => ⟨(.inr (Nat.le_trans (below_size pB) hk_.2.1)), (Kd.freshB (g := gb122) (o := .cells #[.int .u64 a0_0, .int .u64 a0_1, .slice A0_2 l0_2.length c0_2, .int .i64 a0_3, .int .u64 a0_4, .string a0_5, .slice A0_6 l0_6.length c0_6, .int .i64 a0_7, .int .u64 a0_8, .string a0_9, .slice A0_10 l0_10.length c0_10] 28 (0, 0)) (pK BK122.out) k_ hk_.2.1)⟩)) (below_size pB))
     have n3_ := am (pkb BK122.out hb)
     have n4_ := am (below_step pB hb)
     clear HO0_6 HO0_10 BK122 HB; have HO0_6 := n0_; have HO0_10 := n1_; have HO129 := n2_; have BK122 := n3_; have HB := n4_; clear n0_ n1_ n2_ n3_ n4_; (try clear hb); (try clear hb2); (try clear hk); (try clear hi); (try clear ho0)
     refine hK.out _ _ ⟨cz0 BK122.out, cz1 BK122.out, cz2 BK122.out, cz3 BK122.out, cz4 BK122.out, cz5 BK122.out, cz6 BK122.out, cz7 BK122.out, cz8 BK122.out, cz9 BK122.out, cz10 BK122.out⟩ (fun hHeld => ?_)
     clear hK K
     refine norm_ (a' := ?_) ?_ ?_
     rotate_left
     ·show Act.put _ (some 18) _ = _
      exact pA
     refine one_ (i := 5) (N := some 21) (bm 21 7935) rfl rfl (one_of HT_.out (by kernel_rfl)) (by decide) (fun K hK => ?_)
     refine goes_ Tryd.func28 (by kernel_rfl) rfl #[.int .u64 a0_1] (by rfl) rfl rfl pM ?_
     with_reducible refine (code_Number.calls a0_1 t130 t131 t132 t133 _ A8.out).mono ?_
     rintro e w32 ⟨v134, rfl, ho0, hb⟩
     refine ⟨_, rfl, ?_⟩
     have n0_ := am (Kd.V_elder' (pV HO0_6.out) (by first | exact Kd.R_base ho0 | exact Kd.N_base ho0) hb)
     have n1_ := am (Kd.V_elder' (pV HO0_10.out) (by first | exact Kd.R_base ho0 | exact Kd.N_base ho0) hb)
     have n2_ := am (Kd.N_elder' (pN HO129.out) (by first | exact Kd.R_base ho0 | exact Kd.N_base ho0) hb)
     have n3_ := am (Kd.N_lower (Kd.N_mono (ok' := fun k_ => ((P0_6_ k_ ∨ P0_10_ k_) ∨ w.heap.size ≤ k_) ∧ some k_ ≠ (v128 : Value).ownBlock ∧ k_ ≠ gb122) (Kd.R_N (Kd.R_bound ho0)) (fun k_ hk_ => ⟨(.inr (Nat.le_trans (below_size pB) hk_.2.1)), (Kd.fresh' (Kd.N_lt (pN HO129.out)) k_ hk_.2.1), (Kd.freshB (g := gb122) (o := .cells #[.int .u64 a0_0, .int .u64 a0_1, .slice A0_2 l0_2.length c0_2, .int .i64 a0_3, .int .u64 a0_4, .string a0_5, .slice A0_6 l0_6.length c0_6, .int .i64 a0_7, .int .u64 a0_8, .string a0_9, .slice A0_10 l0_10.length c0_10] 28 (0, 0)) (pK BK122.out) k_ hk_.2.1)⟩)) (below_size pB))
     have n4_ := am (pkb BK122.out hb)
     have n5_ := am (below_step pB hb)
     clear HO0_6 HO0_10 HO129 BK122 HB; have HO0_6 := n0_; have HO0_10 := n1_; have HO129 := n2_; have HO135 := n3_; have BK122 := n4_; have HB := n5_; clear n0_ n1_ n2_ n3_ n4_ n5_; (try clear hb); (try clear hb2); (try clear hk); (try clear hi); (try clear ho0)
     refine hK.out _ _ ⟨cz0 BK122.out, cz1 BK122.out, cz2 BK122.out, cz3 BK122.out, cz4 BK122.out, cz5 BK122.out, cz6 BK122.out, cz7 BK122.out, cz8 BK122.out, cz9 BK122.out, cz10 BK122.out⟩ (fun hHeld => ?_)
     clear hK K
     refine norm_ (a' := ?_) ?_ ?_
     rotate_left
     ·show Act.put _ (some 21) _ = _
      exact pA
     refine one_ (i := 8) (N := some 24) (bm 21 8191) rfl rfl (one_of HT_.out (by kernel_rfl)) (by decide) (fun K hK => ?_)
     refine goes_ Tryd.func29 (by kernel_rfl) rfl #[.slice A0_2 l0_2.length c0_2] (by rfl) rfl rfl pM ?_
     with_reducible refine (snap_members.calls k _ _ l0_2 t136 t137 t138 t139 _ ?side1 ?side2 A9.out).mono ?_
     (case side1 => exact pC (Kd.C_below HR0_2.out HB.out))
     (case side2 => exact HC0_2.out)
     rintro e w33 ⟨v140, rfl, ho0, hb⟩
     refine ⟨_, rfl, ?_⟩
     have n0_ := am (Kd.V_elder' (pV HO0_6.out) (by first | exact Kd.R_base ho0 | exact Kd.N_base ho0) hb)
     have n1_ := am (Kd.V_elder' (pV HO0_10.out) (by first | exact Kd.R_base ho0 | exact Kd.N_base ho0) hb)
     have n2_ := am (Kd.N_elder' (pN HO129.out) (by first | exact Kd.R_base ho0 | exact Kd.N_base ho0) hb)
     have n3_ := am (Kd.N_elder' (pN HO135.out) (by first | exact Kd.R_base ho0 | exact Kd.N_base ho0) hb)
     have n4_ := am (Kd.N_lower (Kd.N_mono (ok' := fun k_ => ((P0_6_ k_ ∨ P0_10_ k_) ∨ w.heap.size ≤ k_) ∧ some k_ ≠ (v128 : Value).ownBlock ∧ some k_ ≠ (v134 : Value).ownBlock ∧ k_ ≠ gb122) (Kd.R_N (Kd.R_bound ho0)) (fun k_ hk_ => ⟨(.inr (Nat.le_trans (below_size pB) hk_.2.1)), (Kd.fresh' (Kd.N_lt (pN HO129.out)) k_ hk_.2.1), (Kd.fresh' (Kd.N_lt (pN HO135.out)) k_ hk_.2.1), (Kd.freshB (g := gb122) (o := .cells #[.int .u64 a0_0, .int .u64 a0_1, .slice A0_2 l0_2.length c0_2, .int .i64 a0_3, .int .u64 a0_4, .string a0_5, .slice A0_6 l0_6.length c0_6, .int .i64 a0_7, .int .u64 a0_8, .string a0_9, .slice A0_10 l0_10.length c0_10] 28 (0, 0)) (pK BK122.out) k_ hk_.2.1)⟩)) (below_size pB))
     have n5_ := am (pkb BK122.out hb)
     have n6_ := am (below_step pB hb)
     clear HO0_6 HO0_10 HO129 HO135 BK122 HB; have HO0_6 := n0_; have HO0_10 := n1_; have HO129 := n2_; have HO135 := n3_; have HO141 := n4_; have BK122 := n5_; have HB := n6_; clear n0_ n1_ n2_ n3_ n4_ n5_ n6_; (try clear hb); (try clear hb2); (try clear hk); (try clear hi); (try clear ho0)
     obtain ⟨Ao34, co34, eo34⟩ := Kd.N_slice HO129.out
     (first | subst eo34 | (injection eo34 with f1_ f2_ f3_; have f4_ := f1_.symm; have f5_ := f3_.symm; clear f1_ f2_ f3_; subst f4_; subst f5_))
     obtain ⟨Ao35, co35, eo35⟩ := Kd.N_slice HO135.out
     (first | subst eo35 | (injection eo35 with f1_ f2_ f3_; have f4_ := f1_.symm; have f5_ := f3_.symm; clear f1_ f2_ f3_; subst f4_; subst f5_))
     obtain ⟨Ao36, co36, eo36⟩ := Kd.N_slice HO141.out
     (first | subst eo36 | (injection eo36 with f1_ f2_ f3_; have f4_ := f1_.symm; have f5_ := f3_.symm; clear f1_ f2_ f3_; subst f4_; subst f5_))
     refine hK.out _ _ ⟨cz0 BK122.out, cz1 BK122.out, cz2 BK122.out, cz3 BK122.out, cz4 BK122.out, cz5 BK122.out, cz6 BK122.out, cz7 BK122.out, cz8 BK122.out, cz9 BK122.out, cz10 BK122.out⟩ (fun hHeld => ?_)
     clear hK K
     refine norm_ (a' := ?_) ?_ ?_
     rotate_left
     ·show Act.put _ (some 24) _ = _
      exact pA
     refine one_ (i := 13) (N := some 29) (bm 21 16383) rfl rfl (one_of HT_.out (by kernel_rfl)) (by decide) (fun K hK => ?_)
     refine Kd.N_lit_step k26 _ 26 ?hg (N' := 29) ?hd (xs := ([(⟨t124, t125, t126, t127⟩ : S26), (⟨t130, t131, t132, t133⟩ : S26), (⟨t136, t137, t138, t139⟩ : S26), (⟨a0_3, a0_4, a0_5, l0_6⟩ : S26), (⟨a0_7, a0_8, a0_9, l0_10⟩ : S26)] : List (S26))) (inner := [.int .i64 t124, .int .u64 t125, .string t126, .slice Ao34 t127.length co34, .int .i64 t130, .int .u64 t131, .string t132, .slice Ao35 t133.length co35, .int .i64 t136, .int .u64 t137, .string t138, .slice Ao36 t139.length co36, .int .i64 a0_3, .int .u64 a0_4, .string a0_5, .slice A0_6 l0_6.length c0_6, .int .i64 a0_7, .int .u64 a0_8, .string a0_9, .slice A0_10 l0_10.length c0_10]) (ok := (fun k_ => ((P0_6_ k_ ∨ P0_10_ k_) ∨ w.heap.size ≤ k_) ∧ k_ ≠ gb122)) (okp := (fun k_ => ((P0_6_ k_ ∨ P0_10_ k_) ∨ w.heap.size ≤ k_) ∧ k_ ≠ gb122)) ?hr ?hp (fun _ hk => hk) ((show ∀ k_, w33.heap.size ≤ k_ → (fun k_ => ((P0_6_ k_ ∨ P0_10_ k_) ∨ w.heap.size ≤ k_) ∧ k_ ≠ gb122) k_ from fun k_ hk => ⟨(.inr (Nat.le_trans (below_size pB) hk)), Kd.freshB (g := gb122) (o := .cells #[.int .u64 a0_0, .int .u64 a0_1, .slice A0_2 l0_2.length c0_2, .int .i64 a0_3, .int .u64 a0_4, .string a0_5, .slice A0_6 l0_6.length c0_6, .int .i64 a0_7, .int .u64 a0_8, .string a0_9, .slice A0_10 l0_10.length c0_10] 28 (0, 0)) (pK BK122.out) k_ hk⟩) _ (Nat.le_refl _)) (Below.refl _ _) (Nat.le_refl _) (by simp) ?_; (case hd => rfl); (case hg => rfl); (case hr => first | (go_simp; done) | (go_simp; rfl)); (case hp => exact (Reps.c4 (show Kd.FK k26 _ _ (⟨t124, t125, t126, t127⟩ : S26) [.int .i64 t124, .int .u64 t125, .string t126, .slice Ao34 t127.length co34] from (k26_mkF _ _ (⟨t124, t125, t126, t127⟩ : S26) (Kd.N_reads' (Kd.N_mono (ok' := (fun k_ => ((P0_6_ k_ ∨ P0_10_ k_) ∨ w.heap.size ≤ k_) ∧ k_ ≠ gb122)) (HO129.out) (fun k_ hk => ⟨hk.1.1.1, hk.1.1.2⟩))).2.1 (Kd.N_F (Kd.N_mono (ok' := (fun k_ => ((P0_6_ k_ ∨ P0_10_ k_) ∨ w.heap.size ≤ k_) ∧ k_ ≠ gb122)) (HO129.out) (fun k_ hk => ⟨hk.1.1.1, hk.1.1.2⟩))))) (Reps.c4 (show Kd.FK k26 _ _ (⟨t130, t131, t132, t133⟩ : S26) [.int .i64 t130, .int .u64 t131, .string t132, .slice Ao35 t133.length co35] from (k26_mkF _ _ (⟨t130, t131, t132, t133⟩ : S26) (Kd.N_reads' (Kd.N_mono (ok' := (fun k_ => ((P0_6_ k_ ∨ P0_10_ k_) ∨ w.heap.size ≤ k_) ∧ k_ ≠ gb122)) (HO135.out) (fun k_ hk => ⟨hk.1.1, hk.1.2.2⟩))).2.1 (Kd.N_F (Kd.N_mono (ok' := (fun k_ => ((P0_6_ k_ ∨ P0_10_ k_) ∨ w.heap.size ≤ k_) ∧ k_ ≠ gb122)) (HO135.out) (fun k_ hk => ⟨hk.1.1, hk.1.2.2⟩))))) (Reps.c4 (show Kd.FK k26 _ _ (⟨t136, t137, t138, t139⟩ : S26) [.int .i64 t136, .int .u64 t137, .string t138, .slice Ao36 t139.length co36] from (k26_mkF _ _ (⟨t136, t137, t138, t139⟩ : S26) (Kd.N_reads' (Kd.N_mono (ok' := (fun k_ => ((P0_6_ k_ ∨ P0_10_ k_) ∨ w.heap.size ≤ k_) ∧ k_ ≠ gb122)) (HO141.out) (fun k_ hk => ⟨hk.1, hk.2.2.2⟩))).2.1 (Kd.N_F (Kd.N_mono (ok' := (fun k_ => ((P0_6_ k_ ∨ P0_10_ k_) ∨ w.heap.size ≤ k_) ∧ k_ ≠ gb122)) (HO141.out) (fun k_ hk => ⟨hk.1, hk.2.2.2⟩))))) (Reps.c4 (show Kd.FK k26 _ _ (⟨a0_3, a0_4, a0_5, l0_6⟩ : S26) [.int .i64 a0_3, .int .u64 a0_4, .string a0_5, .slice A0_6 l0_6.length c0_6] from (k26_mkF _ _ (⟨a0_3, a0_4, a0_5, l0_6⟩ : S26) (Kd.V_reads' (Kd.V_mono (ok' := (fun k_ => ((P0_6_ k_ ∨ P0_10_ k_) ∨ w.heap.size ≤ k_) ∧ k_ ≠ gb122)) (HO0_6.out) (fun k_ hk => ⟨hk.1.1.1.1, hk.1.1.1.2⟩))).2.1 (Kd.V_F (Kd.V_mono (ok' := (fun k_ => ((P0_6_ k_ ∨ P0_10_ k_) ∨ w.heap.size ≤ k_) ∧ k_ ≠ gb122)) (HO0_6.out) (fun k_ hk => ⟨hk.1.1.1.1, hk.1.1.1.2⟩))))) (Reps.c4 (show Kd.FK k26 _ _ (⟨a0_7, a0_8, a0_9, l0_10⟩ : S26) [.int .i64 a0_7, .int .u64 a0_8, .string a0_9, .slice A0_10 l0_10.length c0_10] from (k26_mkF _ _ (⟨a0_7, a0_8, a0_9, l0_10⟩ : S26) (Kd.V_reads' (Kd.V_mono (ok' := (fun k_ => ((P0_6_ k_ ∨ P0_10_ k_) ∨ w.heap.size ≤ k_) ∧ k_ ≠ gb122)) (HO0_10.out) (fun k_ hk => ⟨hk.1.1.1.1, hk.1.1.1.2⟩))).2.1 (Kd.V_F (Kd.V_mono (ok' := (fun k_ => ((P0_6_ k_ ∨ P0_10_ k_) ∨ w.heap.size ≤ k_) ∧ k_ ≠ gb122)) (HO0_10.out) (fun k_ hk => ⟨hk.1.1.1.1, hk.1.1.1.2⟩))))) (Reps.none _ _)))))))
     intro v143 w37 ho38 hb hg_ hnew_
     clear hg_ hnew_
     (first | rw [← Ny142.out] at ho38 | (simp only [Int.reduceToNat] at ho38; rw [← Ny142.out] at ho38))
     have n0_ := am (Kd.V_elder' (pV HO0_6.out) (by first | exact Kd.R_base ho38 | exact Kd.N_base ho38) hb)
     have n1_ := am (Kd.V_elder' (pV HO0_10.out) (by first | exact Kd.R_base ho38 | exact Kd.N_base ho38) hb)
     have n2_ := am (Kd.N_lower ho38 (below_size pB))
     have n3_ := am (pkb BK122.out hb)
     have n4_ := am (below_step pB hb)
     clear HO0_6 HO0_10 BK122 HB HO129 HO135 HO141; have HO0_6 := n0_; have HO0_10 := n1_; have HO144 := n2_; have BK122 := n3_; have HB := n4_; clear n0_ n1_ n2_ n3_ n4_ hb ho38
     obtain ⟨Ao39, co39, eo39⟩ := Kd.N_slice HO144.out
     (first | subst eo39 | (injection eo39 with f1_ f2_ f3_; have f4_ := f1_.symm; have f5_ := f3_.symm; clear f1_ f2_ f3_; subst f4_; subst f5_))
     refine hK.out _ _ ⟨cz0 BK122.out, cz1 BK122.out, cz2 BK122.out, cz3 BK122.out, cz4 BK122.out, cz5 BK122.out, cz6 BK122.out, cz7 BK122.out, cz8 BK122.out, cz9 BK122.out, cz10 BK122.out⟩ (fun hHeld => ?_)
     clear hK K
     refine norm_ (a' := ?_) ?_ ?_
     rotate_left
     ·show Act.put _ (some 29) _ = _
      exact pA
     refine pure_ (i := 14) (N := some 30) (v := ?_) (a' := ?_) (bm 21 32767) rfl rfl (any_of HT_.out (by kernel_rfl)) (fun _ _ _ h => h) (Or.inl ⟨by kernel_rfl, ?_⟩) ?_ ?_
     rotate_left
     ·intro w'
      go_simp
      with_reducible rfl
     rotate_left
     ·exact pA
     refine one_ (i := 15) (N := some 31) (bm 21 65535) rfl rfl (one_of HT_.out (by kernel_rfl)) (by decide) (fun K hK => ?_)
     refine goes_ Tryd.func27 (by kernel_rfl) rfl #[.agg #[.int .i64 2, .int .u64 0, .string (⟨#[]⟩ : ByteArray), .slice Ao39 y142.length co39]] (by rfl) rfl rfl pM ?_
     with_reducible refine (code_Encode.calls k 2 0 (⟨#[]⟩ : ByteArray) _ _ y142 t145 t148 _ ?side1 ?side2 A10.out).mono ?_
     (case side1 => repeat (first | exact (Kd.N_reads' HO144.out).2.2 | (with_reducible refine Kd.C_alloc ?_ _) | (with_reducible refine Kd.C_drewN ?_ _) | (with_reducible refine Kd.C_drew ?_)))
     (case side2 => exact (Kd.N_reads' HO144.out).2.1)
     rintro e w40 ⟨v146, rfl, ho0, hb⟩
     refine ⟨_, rfl, ?_⟩
     have n0_ := am (Kd.V_below (pV HO0_6.out) hb)
     have n1_ := am (Kd.V_below (pV HO0_10.out) hb)
     have n2_ := am (Kd.N_below (pN HO144.out) hb)
     have n3_ := am (Kd.V_lower (Kd.V_mono (ok' := fun k_ => ((P0_6_ k_ ∨ P0_10_ k_) ∨ w.heap.size ≤ k_) ∧ some k_ ≠ (.slice Ao39 y142.length co39 : Value).ownBlock ∧ k_ ≠ gb122) ho0 (fun k_ hk_ => ⟨(.inr (Nat.le_trans (below_size pB) hk_)), (Kd.fresh' (Kd.N_lt (pN HO144.out)) k_ hk_), (Kd.freshB (g := gb122) (o := .cells #[.int .u64 a0_0, .int .u64 a0_1, .slice A0_2 l0_2.length c0_2, .int .i64 a0_3, .int .u64 a0_4, .string a0_5, .slice A0_6 l0_6.length c0_6, .int .i64 a0_7, .int .u64 a0_8, .string a0_9, .slice A0_10 l0_10.length c0_10] 28 (0, 0)) (pK BK122.out) k_ hk_)⟩)) (below_size pB))
     have n4_ := am (pkb BK122.out hb)
     have n5_ := am (below_step pB hb)
     clear HO0_6 HO0_10 HO144 BK122 HB; have HO0_6 := n0_; have HO0_10 := n1_; have HO144 := n2_; have HO147 := n3_; have BK122 := n4_; have HB := n5_; clear n0_ n1_ n2_ n3_ n4_ n5_; (try clear hb); (try clear hb2); (try clear hk); (try clear hi); (try clear ho0)
     refine hK.out _ _ ⟨cz0 BK122.out, cz1 BK122.out, cz2 BK122.out, cz3 BK122.out, cz4 BK122.out, cz5 BK122.out, cz6 BK122.out, cz7 BK122.out, cz8 BK122.out, cz9 BK122.out, cz10 BK122.out⟩ (fun hHeld => ?_)
     clear hK K
     refine norm_ (a' := ?_) ?_ ?_
     rotate_left
     ·show Act.put _ (some 31) _ = _
      exact pA
     refine pure_ (i := 16) (N := some 15) (v := ?_) (a' := ?_) (bm 21 131071) rfl rfl (any_of HT_.out (by kernel_rfl)) (fun _ _ _ h => h) (Or.inl ⟨by kernel_rfl, ?_⟩) ?_ ?_
     rotate_left
     ·intro w'
      go_simp
      with_reducible rfl
     rotate_left
     ·exact pA
     refine pure_ (i := 17) (N := some 32) (v := ?_) (a' := ?_) (bm 21 262143) rfl rfl (any_of HT_.out (by kernel_rfl)) (fun _ _ _ h => h) (Or.inl ⟨by kernel_rfl, ?_⟩) ?_ ?_
     rotate_left
     ·intro w'
      go_simp
      with_reducible rfl
     rotate_left
     ·exact pA
     refine pure_ (i := 18) (N := some 33) (v := ?_) (a' := ?_) (bm 21 524287) rfl rfl (any_of HT_.out (by kernel_rfl)) (fun _ _ _ h => h) (Or.inl ⟨by kernel_rfl, ?_⟩) ?_ ?_
     rotate_left
     ·intro w'
      go_simp
      with_reducible rfl
     rotate_left
     ·exact pA
     refine pure_ (i := 19) (N := some 4) (v := ?_) (a' := ?_) (bm 21 1048575) rfl rfl (any_of HT_.out (by kernel_rfl)) (fun _ _ _ h => h) (Or.inl ⟨by kernel_rfl, ?_⟩) ?_ ?_
     rotate_left
     ·intro w'
      go_simp
      with_reducible rfl
     rotate_left
     ·exact pA
     refine pure_ (i := 20) (N := some 5) (v := ?_) (a' := ?_) (bm 21 2097151) rfl rfl (any_of HT_.out (by kernel_rfl)) (fun _ _ _ h => h) (Or.inl ⟨by kernel_rfl, ?_⟩) ?_ ?_
     rotate_left
     ·intro w'
      go_simp
      with_reducible rfl
     rotate_left
     ·exact pA
     refine done_ (done_of HT_.out (by kernel_rfl)) ?_
     obtain ⟨Ao41, co41, eo41⟩ := Kd.V_slice HO147.out
     subst eo41
     try go_wp2_with (first | ((with_reducible refine gate_callee (f := 30) rfl ?_); refine goesL_ (some 41) rfl rfl Tryd.func30 (by kernel_rfl) rfl #[.slice Ao41 t145.length co41] rfl pM ?_; (with_reducible refine (frame_Frame.calls _ _ t145 t149 t150 _ ?side1 ?side2 ?side3 A27.out).mono ?_); (case side1 => repeat (first | exact (Kd.V_reads' HO147.out).2.2 | (with_reducible refine Kd.C_alloc ?_ _) | (with_reducible refine Kd.C_drewN ?_ _) | (with_reducible refine Kd.C_drew ?_))); (case side2 => exact (Kd.V_reads' HO147.out).2.1); (case side3 => exact pG); rintro e w42 ⟨v151, rfl, ho0, hb⟩; refine ⟨_, rfl, ?_⟩; replace HO0_6 := am (Kd.V_elder' (pV HO0_6.out) (Kd.R_base ho0) hb); replace HO0_10 := am (Kd.V_elder' (pV HO0_10.out) (Kd.R_base ho0) hb); replace HO144 := am (Kd.N_elder' (pN HO144.out) (Kd.R_base ho0) hb); replace HO147 := am (Kd.V_elder' (pV HO147.out) (Kd.R_base ho0) hb); have HO152 := am (Kd.R_lower (Kd.R_newM (M := fun k_ => (w.heap.size ≤ k_)) ho0 (below_size pB) (fun k_ h_ => h_)) (below_size pB)); replace BK122 := am (pkb BK122.out hb); replace HB := am (below_step pB hb); (try clear hb); (try clear hb2); (try clear hk); (try clear hi); (try clear ho0)))
     go_ret2
     exact ⟨_, pE, by (with_reducible repeat (first | apply Kd.R_alloc | apply Kd.R_drewN | apply Kd.R_drew)); exact Kd.R_mono HO152.out (fun _ hk => hk.1), pB⟩
   ·rw [if_neg c11] at H
    have c11b0 : (t148 == 0) = false := beq_eq_false_iff_ne.mpr c11
    have c11b1 : (t148 != 0) = true := bne_iff_ne.mpr c11
    simp only [Option.some.injEq, Prod.mk.injEq] at H
    obtain ⟨rfl, rfl⟩ := H
    go_enter Tryd.func9, Tryd.ntmps9
    try go_wp2_with (first | ((with_reducible refine gate_dst (N := 1) rfl ?_); refine box_event ?hg (N := 1) ?hd (cs := #[.int .u64 a0_0, .int .u64 a0_1, .slice A0_2 l0_2.length c0_2, .int .i64 a0_3, .int .u64 a0_4, .string a0_5, .slice A0_6 l0_6.length c0_6, .int .i64 a0_7, .int .u64 a0_8, .string a0_9, .slice A0_10 l0_10.length c0_10]) (t := 28) ?hr ?_; (case hd => rfl); (case hg => rfl); (case hr => first | (go_simp; done) | (go_simp; rfl)); intro gb122 hg w43 hbox hb; replace HO0_6 := am (Kd.V_below (Kd.V_elderB (pV HO0_6.out) gb122 (Nat.le_of_eq hg.symm)) hb); replace HO0_10 := am (Kd.V_below (Kd.V_elderB (pV HO0_10.out) gb122 (Nat.le_of_eq hg.symm)) hb); have BK122 := am (hbox); have GW122 := am ((by rw [hg]; exact (below_size pB) : w.heap.size ≤ gb122)); have GE122 := am ((by rw [hg]; exact (below_size pB) : w.heap.size ≤ gb122)); replace HB := am (below_step pB hb); clear hb hbox hg; have q44 := cf11 BK122.out) | ((with_reducible refine gate_callee (f := 26) rfl ?_); refine goesL_ (some 9) rfl rfl Tryd.func26 (by kernel_rfl) rfl #[.slice A0_2 l0_2.length c0_2] rfl pM ?_; (with_reducible refine (snap_can.calls k _ _ l0_2 true _ ?side1 ?side2 A2.out).mono ?_); (case side1 => exact pC (Kd.C_below HR0_2.out HB.out)); (case side2 => exact HC0_2.out); rintro e w' ⟨rfl, ⟨nd, rfl⟩⟩; refine ⟨_, rfl, ?_⟩))
    (try (rw [drewN_self w43]; generalize hq_ : World.drewN w43 _ = w43; have n0_ : Aside0 (Kd.V k26 26 w43 w.heap.size (fun k_ => ((P0_6_ k_ ∨ P0_10_ k_) ∨ w.heap.size ≤ k_) ∧ k_ ≠ gb122) (.slice A0_10 l0_10.length c0_10) l0_10) := ⟨by rw [← hq_]; exact (pV HO0_10.out)⟩; have n1_ : Aside0 (Kd.V k26 26 w43 w.heap.size (fun k_ => ((P0_6_ k_ ∨ P0_10_ k_) ∨ w.heap.size ≤ k_) ∧ k_ ≠ gb122) (.slice A0_6 l0_6.length c0_6) l0_6) := ⟨by rw [← hq_]; exact (pV HO0_6.out)⟩; have n2_ : Aside0 (w43.heap[gb122]? = some (.cells #[.int .u64 a0_0, .int .u64 a0_1, .slice A0_2 l0_2.length c0_2, .int .i64 a0_3, .int .u64 a0_4, .string a0_5, .slice A0_6 l0_6.length c0_6, .int .i64 a0_7, .int .u64 a0_8, .string a0_9, .slice A0_10 l0_10.length c0_10] 28 (0, 0))) := ⟨by rw [← hq_]; exact (pK BK122.out)⟩; have n3_ : Aside0 (Below w.heap.size w w43) := ⟨by rw [← hq_]; exact pB⟩; clear HO0_10 HO0_6 BK122 HB hq_; have HO0_10 := n0_; have HO0_6 := n1_; have BK122 := n2_; have HB := n3_; clear n0_ n1_ n2_ n3_))
    replace HO0_6 := am (Kd.V_drew HO0_6.out)
    replace HO0_10 := am (Kd.V_drew HO0_10.out)
    replace BK122 := am (blk_drew BK122.out)
    replace HB := am (below_drew1 HB.out)
    refine start_ (n := 21) (S := fun w' => w'.cell? ⟨gb122, 0, none⟩ = some (.int .u64 a0_0) ∧ w'.cell? ⟨gb122, 1, none⟩ = some (.int .u64 a0_1) ∧ w'.cell? ⟨gb122, 2, none⟩ = some (.slice A0_2 l0_2.length c0_2) ∧ w'.cell? ⟨gb122, 3, none⟩ = some (.int .i64 a0_3) ∧ w'.cell? ⟨gb122, 4, none⟩ = some (.int .u64 a0_4) ∧ w'.cell? ⟨gb122, 5, none⟩ = some (.string a0_5) ∧ w'.cell? ⟨gb122, 6, none⟩ = some (.slice A0_6 l0_6.length c0_6) ∧ w'.cell? ⟨gb122, 7, none⟩ = some (.int .i64 a0_7) ∧ w'.cell? ⟨gb122, 8, none⟩ = some (.int .u64 a0_8) ∧ w'.cell? ⟨gb122, 9, none⟩ = some (.string a0_9) ∧ w'.cell? ⟨gb122, 10, none⟩ = some (.slice A0_10 l0_10.length c0_10)) (ds := []) (bm 21 0) (by kernel_rfl) rfl rfl ⟨cz0 BK122.out, cz1 BK122.out, cz2 BK122.out, cz3 BK122.out, cz4 BK122.out, cz5 BK122.out, cz6 BK122.out, cz7 BK122.out, cz8 BK122.out, cz9 BK122.out, cz10 BK122.out⟩ (fun hHeld => ?_); refine with_tabW snap_Save.tab5 snap_Save.bits5 (fun HT_ HW_ => ?_)
    generalize w43.drew = w45 at HO0_6 HO0_10 BK122 HB hHeld ⊢
    refine pure_ (i := 0) (N := some 16) (v := ?_) (a' := ?_) (bm 21 1) rfl rfl (any_of HT_.out (by kernel_rfl)) (fun _ _ _ h => h) (Or.inl ⟨by kernel_rfl, ?_⟩) ?_ ?_
    rotate_left
    ·intro w'
     go_simp
     with_reducible rfl
    rotate_left
    ·exact pA
    refine pure_ (i := 3) (N := some 19) (v := ?_) (a' := ?_) (bm 21 9) rfl rfl (any_of HT_.out (by kernel_rfl)) (fun _ _ _ h => h) (Or.inl ⟨by kernel_rfl, ?_⟩) ?_ ?_
    rotate_left
    ·intro w'
     go_simp
     with_reducible rfl
    rotate_left
    ·exact pA
    refine pure_ (i := 6) (N := some 22) (v := ?_) (a' := ?_) (bm 21 73) rfl rfl (any_of HT_.out (by kernel_rfl)) (fun _ _ _ h => h) (Or.inl ⟨by kernel_rfl, ?_⟩) ?_ ?_
    rotate_left
    ·intro w'
     go_simp
     with_reducible rfl
    rotate_left
    ·exact pA
    refine pure_ (i := 9) (N := some 25) (v := ?_) (a' := ?_) (bm 21 585) rfl rfl (any_of HT_.out (by kernel_rfl)) (fun _ _ _ h => h) (Or.inl ⟨by kernel_rfl, ?_⟩) ?_ ?_
    rotate_left
    ·intro w'
     go_simp
     with_reducible rfl
    rotate_left
    ·exact pA
    refine pure_ (i := 11) (N := some 27) (v := ?_) (a' := ?_) (bm 21 2633) rfl rfl (any_of HT_.out (by kernel_rfl)) (fun _ _ _ h => h) (Or.inl ⟨by kernel_rfl, ?_⟩) ?_ ?_
    rotate_left
    ·intro w'
     go_simp
     with_reducible rfl
    rotate_left
    ·exact pA
    refine take_ (i := 1) (N := some 17) (v := ?_) (a' := ?_) (bm 21 2635) rfl rfl (take_ofW HT_.out HW_.out (by kernel_rfl)) (fun _ _ _ h => h) (Or.inl ⟨by kernel_rfl, ?_⟩) hHeld ?_ ?_
    rotate_left
    ·rintro w' ⟨s0, s1, s2, s3, s4, s5, s6, s7, s8, s9, s10⟩
     go_simp
     with_reducible rfl
    rotate_left
    ·exact pA
    refine take_ (i := 4) (N := some 20) (v := ?_) (a' := ?_) (bm 21 2651) rfl rfl (take_ofW HT_.out HW_.out (by kernel_rfl)) (fun _ _ _ h => h) (Or.inl ⟨by kernel_rfl, ?_⟩) hHeld ?_ ?_
    rotate_left
    ·rintro w' ⟨s0, s1, s2, s3, s4, s5, s6, s7, s8, s9, s10⟩
     go_simp
     with_reducible rfl
    rotate_left
    ·exact pA
    refine take_ (i := 7) (N := some 23) (v := ?_) (a' := ?_) (bm 21 2779) rfl rfl (take_ofW HT_.out HW_.out (by kernel_rfl)) (fun _ _ _ h => h) (Or.inl ⟨by kernel_rfl, ?_⟩) hHeld ?_ ?_
    rotate_left
    ·rintro w' ⟨s0, s1, s2, s3, s4, s5, s6, s7, s8, s9, s10⟩
     go_simp
     with_reducible rfl
    rotate_left
    ·exact pA
    refine take_ (i := 10) (N := some 26) (v := ?_) (a' := ?_) (bm 21 3803) rfl rfl (take_ofW HT_.out HW_.out (by kernel_rfl)) (fun _ _ _ h => h) (Or.inl ⟨by kernel_rfl, ?_⟩) hHeld ?_ ?_
    rotate_left
    ·rintro w' ⟨s0, s1, s2, s3, s4, s5, s6, s7, s8, s9, s10⟩
     go_simp
     with_reducible rfl
    rotate_left
    ·exact pA
    refine take_ (i := 12) (N := some 28) (v := ?_) (a' := ?_) (bm 21 7899) rfl rfl (take_ofW HT_.out HW_.out (by kernel_rfl)) (fun _ _ _ h => h) (Or.inl ⟨by kernel_rfl, ?_⟩) hHeld ?_ ?_
    rotate_left
    ·rintro w' ⟨s0, s1, s2, s3, s4, s5, s6, s7, s8, s9, s10⟩
     go_simp
     with_reducible rfl
    rotate_left
    ·exact pA
    refine one_ (i := 2) (N := some 18) (bm 21 7903) rfl rfl (one_of HT_.out (by kernel_rfl)) (by decide) (fun K hK => ?_)
    refine goes_ Tryd.func28 (by kernel_rfl) rfl #[.int .u64 a0_0] (by rfl) rfl rfl pM ?_
    with_reducible refine (code_Number.calls a0_0 t124 t125 t126 t127 _ A7.out).mono ?_
    rintro e w46 ⟨v128, rfl, ho0, hb⟩
    refine ⟨_, rfl, ?_⟩
    have n0_ := am (Kd.V_elder' (pV HO0_6.out) (by first | exact Kd.R_base ho0 | exact Kd.N_base ho0) hb)
    have n1_ := am (Kd.V_elder' (pV HO0_10.out) (by first | exact Kd.R_base ho0 | exact Kd.N_base ho0) hb)
    have n2_ := am (Kd.N_lower (Kd.N_mono (ok' := fun k_ => ((P0_6_ k_ ∨ P0_10_ k_) ∨ w.heap.size ≤ k_) ∧ k_ ≠ gb122) (Kd.R_N (Kd.R_bound ho0)) (fun k_ hk_ => ⟨(.inr (Nat.le_trans (below_size pB) hk_.2.1)), (Kd.freshB (g := gb122) (o := .cells #[.int .u64 a0_0, .int .u64 a0_1, .slice A0_2 l0_2.length c0_2, .int .i64 a0_3, .int .u64 a0_4, .string a0_5, .slice A0_6 l0_6.length c0_6, .int .i64 a0_7, .int .u64 a0_8, .string a0_9, .slice A0_10 l0_10.length c0_10] 28 (0, 0)) (pK BK122.out) k_ hk_.2.1)⟩)) (below_size pB))
    have n3_ := am (pkb BK122.out hb)
    have n4_ := am (below_step pB hb)
    clear HO0_6 HO0_10 BK122 HB; have HO0_6 := n0_; have HO0_10 := n1_; have HO129 := n2_; have BK122 := n3_; have HB := n4_; clear n0_ n1_ n2_ n3_ n4_; (try clear hb); (try clear hb2); (try clear hk); (try clear hi); (try clear ho0)
    refine hK.out _ _ ⟨cz0 BK122.out, cz1 BK122.out, cz2 BK122.out, cz3 BK122.out, cz4 BK122.out, cz5 BK122.out, cz6 BK122.out, cz7 BK122.out, cz8 BK122.out, cz9 BK122.out, cz10 BK122.out⟩ (fun hHeld => ?_)
    clear hK K
    refine norm_ (a' := ?_) ?_ ?_
    rotate_left
    ·show Act.put _ (some 18) _ = _
     exact pA
    refine one_ (i := 5) (N := some 21) (bm 21 7935) rfl rfl (one_of HT_.out (by kernel_rfl)) (by decide) (fun K hK => ?_)
    refine goes_ Tryd.func28 (by kernel_rfl) rfl #[.int .u64 a0_1] (by rfl) rfl rfl pM ?_
    with_reducible refine (code_Number.calls a0_1 t130 t131 t132 t133 _ A8.out).mono ?_
    rintro e w47 ⟨v134, rfl, ho0, hb⟩
    refine ⟨_, rfl, ?_⟩
    have n0_ := am (Kd.V_elder' (pV HO0_6.out) (by first | exact Kd.R_base ho0 | exact Kd.N_base ho0) hb)
    have n1_ := am (Kd.V_elder' (pV HO0_10.out) (by first | exact Kd.R_base ho0 | exact Kd.N_base ho0) hb)
    have n2_ := am (Kd.N_elder' (pN HO129.out) (by first | exact Kd.R_base ho0 | exact Kd.N_base ho0) hb)
    have n3_ := am (Kd.N_lower (Kd.N_mono (ok' := fun k_ => ((P0_6_ k_ ∨ P0_10_ k_) ∨ w.heap.size ≤ k_) ∧ some k_ ≠ (v128 : Value).ownBlock ∧ k_ ≠ gb122) (Kd.R_N (Kd.R_bound ho0)) (fun k_ hk_ => ⟨(.inr (Nat.le_trans (below_size pB) hk_.2.1)), (Kd.fresh' (Kd.N_lt (pN HO129.out)) k_ hk_.2.1), (Kd.freshB (g := gb122) (o := .cells #[.int .u64 a0_0, .int .u64 a0_1, .slice A0_2 l0_2.length c0_2, .int .i64 a0_3, .int .u64 a0_4, .string a0_5, .slice A0_6 l0_6.length c0_6, .int .i64 a0_7, .int .u64 a0_8, .string a0_9, .slice A0_10 l0_10.length c0_10] 28 (0, 0)) (pK BK122.out) k_ hk_.2.1)⟩)) (below_size pB))
    have n4_ := am (pkb BK122.out hb)
    have n5_ := am (below_step pB hb)
    clear HO0_6 HO0_10 HO129 BK122 HB; have HO0_6 := n0_; have HO0_10 := n1_; have HO129 := n2_; have HO135 := n3_; have BK122 := n4_; have HB := n5_; clear n0_ n1_ n2_ n3_ n4_ n5_; (try clear hb); (try clear hb2); (try clear hk); (try clear hi); (try clear ho0)
    refine hK.out _ _ ⟨cz0 BK122.out, cz1 BK122.out, cz2 BK122.out, cz3 BK122.out, cz4 BK122.out, cz5 BK122.out, cz6 BK122.out, cz7 BK122.out, cz8 BK122.out, cz9 BK122.out, cz10 BK122.out⟩ (fun hHeld => ?_)
    clear hK K
    refine norm_ (a' := ?_) ?_ ?_
    rotate_left
    ·show Act.put _ (some 21) _ = _
     exact pA
    refine one_ (i := 8) (N := some 24) (bm 21 8191) rfl rfl (one_of HT_.out (by kernel_rfl)) (by decide) (fun K hK => ?_)
    refine goes_ Tryd.func29 (by kernel_rfl) rfl #[.slice A0_2 l0_2.length c0_2] (by rfl) rfl rfl pM ?_
    with_reducible refine (snap_members.calls k _ _ l0_2 t136 t137 t138 t139 _ ?side1 ?side2 A9.out).mono ?_
    (case side1 => exact pC (Kd.C_below HR0_2.out HB.out))
    (case side2 => exact HC0_2.out)
    rintro e w48 ⟨v140, rfl, ho0, hb⟩
    refine ⟨_, rfl, ?_⟩
    have n0_ := am (Kd.V_elder' (pV HO0_6.out) (by first | exact Kd.R_base ho0 | exact Kd.N_base ho0) hb)
    have n1_ := am (Kd.V_elder' (pV HO0_10.out) (by first | exact Kd.R_base ho0 | exact Kd.N_base ho0) hb)
    have n2_ := am (Kd.N_elder' (pN HO129.out) (by first | exact Kd.R_base ho0 | exact Kd.N_base ho0) hb)
    have n3_ := am (Kd.N_elder' (pN HO135.out) (by first | exact Kd.R_base ho0 | exact Kd.N_base ho0) hb)
    have n4_ := am (Kd.N_lower (Kd.N_mono (ok' := fun k_ => ((P0_6_ k_ ∨ P0_10_ k_) ∨ w.heap.size ≤ k_) ∧ some k_ ≠ (v128 : Value).ownBlock ∧ some k_ ≠ (v134 : Value).ownBlock ∧ k_ ≠ gb122) (Kd.R_N (Kd.R_bound ho0)) (fun k_ hk_ => ⟨(.inr (Nat.le_trans (below_size pB) hk_.2.1)), (Kd.fresh' (Kd.N_lt (pN HO129.out)) k_ hk_.2.1), (Kd.fresh' (Kd.N_lt (pN HO135.out)) k_ hk_.2.1), (Kd.freshB (g := gb122) (o := .cells #[.int .u64 a0_0, .int .u64 a0_1, .slice A0_2 l0_2.length c0_2, .int .i64 a0_3, .int .u64 a0_4, .string a0_5, .slice A0_6 l0_6.length c0_6, .int .i64 a0_7, .int .u64 a0_8, .string a0_9, .slice A0_10 l0_10.length c0_10] 28 (0, 0)) (pK BK122.out) k_ hk_.2.1)⟩)) (below_size pB))
    have n5_ := am (pkb BK122.out hb)
    have n6_ := am (below_step pB hb)
    clear HO0_6 HO0_10 HO129 HO135 BK122 HB; have HO0_6 := n0_; have HO0_10 := n1_; have HO129 := n2_; have HO135 := n3_; have HO141 := n4_; have BK122 := n5_; have HB := n6_; clear n0_ n1_ n2_ n3_ n4_ n5_ n6_; (try clear hb); (try clear hb2); (try clear hk); (try clear hi); (try clear ho0)
    obtain ⟨Ao49, co49, eo49⟩ := Kd.N_slice HO129.out
    (first | subst eo49 | (injection eo49 with f1_ f2_ f3_; have f4_ := f1_.symm; have f5_ := f3_.symm; clear f1_ f2_ f3_; subst f4_; subst f5_))
    obtain ⟨Ao50, co50, eo50⟩ := Kd.N_slice HO135.out
    (first | subst eo50 | (injection eo50 with f1_ f2_ f3_; have f4_ := f1_.symm; have f5_ := f3_.symm; clear f1_ f2_ f3_; subst f4_; subst f5_))
    obtain ⟨Ao51, co51, eo51⟩ := Kd.N_slice HO141.out
    (first | subst eo51 | (injection eo51 with f1_ f2_ f3_; have f4_ := f1_.symm; have f5_ := f3_.symm; clear f1_ f2_ f3_; subst f4_; subst f5_))
    refine hK.out _ _ ⟨cz0 BK122.out, cz1 BK122.out, cz2 BK122.out, cz3 BK122.out, cz4 BK122.out, cz5 BK122.out, cz6 BK122.out, cz7 BK122.out, cz8 BK122.out, cz9 BK122.out, cz10 BK122.out⟩ (fun hHeld => ?_)
    clear hK K
    refine norm_ (a' := ?_) ?_ ?_
    rotate_left
    ·show Act.put _ (some 24) _ = _
     exact pA
    refine one_ (i := 13) (N := some 29) (bm 21 16383) rfl rfl (one_of HT_.out (by kernel_rfl)) (by decide) (fun K hK => ?_)
    refine Kd.N_lit_step k26 _ 26 ?hg (N' := 29) ?hd (xs := ([(⟨t124, t125, t126, t127⟩ : S26), (⟨t130, t131, t132, t133⟩ : S26), (⟨t136, t137, t138, t139⟩ : S26), (⟨a0_3, a0_4, a0_5, l0_6⟩ : S26), (⟨a0_7, a0_8, a0_9, l0_10⟩ : S26)] : List (S26))) (inner := [.int .i64 t124, .int .u64 t125, .string t126, .slice Ao49 t127.length co49, .int .i64 t130, .int .u64 t131, .string t132, .slice Ao50 t133.length co50, .int .i64 t136, .int .u64 t137, .string t138, .slice Ao51 t139.length co51, .int .i64 a0_3, .int .u64 a0_4, .string a0_5, .slice A0_6 l0_6.length c0_6, .int .i64 a0_7, .int .u64 a0_8, .string a0_9, .slice A0_10 l0_10.length c0_10]) (ok := (fun k_ => ((P0_6_ k_ ∨ P0_10_ k_) ∨ w.heap.size ≤ k_) ∧ k_ ≠ gb122)) (okp := (fun k_ => ((P0_6_ k_ ∨ P0_10_ k_) ∨ w.heap.size ≤ k_) ∧ k_ ≠ gb122)) ?hr ?hp (fun _ hk => hk) ((show ∀ k_, w48.heap.size ≤ k_ → (fun k_ => ((P0_6_ k_ ∨ P0_10_ k_) ∨ w.heap.size ≤ k_) ∧ k_ ≠ gb122) k_ from fun k_ hk => ⟨(.inr (Nat.le_trans (below_size pB) hk)), Kd.freshB (g := gb122) (o := .cells #[.int .u64 a0_0, .int .u64 a0_1, .slice A0_2 l0_2.length c0_2, .int .i64 a0_3, .int .u64 a0_4, .string a0_5, .slice A0_6 l0_6.length c0_6, .int .i64 a0_7, .int .u64 a0_8, .string a0_9, .slice A0_10 l0_10.length c0_10] 28 (0, 0)) (pK BK122.out) k_ hk⟩) _ (Nat.le_refl _)) (Below.refl _ _) (Nat.le_refl _) (by simp) ?_; (case hd => rfl); (case hg => rfl); (case hr => first | (go_simp; done) | (go_simp; rfl)); (case hp => exact (Reps.c4 (show Kd.FK k26 _ _ (⟨t124, t125, t126, t127⟩ : S26) [.int .i64 t124, .int .u64 t125, .string t126, .slice Ao49 t127.length co49] from (k26_mkF _ _ (⟨t124, t125, t126, t127⟩ : S26) (Kd.N_reads' (Kd.N_mono (ok' := (fun k_ => ((P0_6_ k_ ∨ P0_10_ k_) ∨ w.heap.size ≤ k_) ∧ k_ ≠ gb122)) (HO129.out) (fun k_ hk => ⟨hk.1.1.1, hk.1.1.2⟩))).2.1 (Kd.N_F (Kd.N_mono (ok' := (fun k_ => ((P0_6_ k_ ∨ P0_10_ k_) ∨ w.heap.size ≤ k_) ∧ k_ ≠ gb122)) (HO129.out) (fun k_ hk => ⟨hk.1.1.1, hk.1.1.2⟩))))) (Reps.c4 (show Kd.FK k26 _ _ (⟨t130, t131, t132, t133⟩ : S26) [.int .i64 t130, .int .u64 t131, .string t132, .slice Ao50 t133.length co50] from (k26_mkF _ _ (⟨t130, t131, t132, t133⟩ : S26) (Kd.N_reads' (Kd.N_mono (ok' := (fun k_ => ((P0_6_ k_ ∨ P0_10_ k_) ∨ w.heap.size ≤ k_) ∧ k_ ≠ gb122)) (HO135.out) (fun k_ hk => ⟨hk.1.1, hk.1.2.2⟩))).2.1 (Kd.N_F (Kd.N_mono (ok' := (fun k_ => ((P0_6_ k_ ∨ P0_10_ k_) ∨ w.heap.size ≤ k_) ∧ k_ ≠ gb122)) (HO135.out) (fun k_ hk => ⟨hk.1.1, hk.1.2.2⟩))))) (Reps.c4 (show Kd.FK k26 _ _ (⟨t136, t137, t138, t139⟩ : S26) [.int .i64 t136, .int .u64 t137, .string t138, .slice Ao51 t139.length co51] from (k26_mkF _ _ (⟨t136, t137, t138, t139⟩ : S26) (Kd.N_reads' (Kd.N_mono (ok' := (fun k_ => ((P0_6_ k_ ∨ P0_10_ k_) ∨ w.heap.size ≤ k_) ∧ k_ ≠ gb122)) (HO141.out) (fun k_ hk => ⟨hk.1, hk.2.2.2⟩))).2.1 (Kd.N_F (Kd.N_mono (ok' := (fun k_ => ((P0_6_ k_ ∨ P0_10_ k_) ∨ w.heap.size ≤ k_) ∧ k_ ≠ gb122)) (HO141.out) (fun k_ hk => ⟨hk.1, hk.2.2.2⟩))))) (Reps.c4 (show Kd.FK k26 _ _ (⟨a0_3, a0_4, a0_5, l0_6⟩ : S26) [.int .i64 a0_3, .int .u64 a0_4, .string a0_5, .slice A0_6 l0_6.length c0_6] from (k26_mkF _ _ (⟨a0_3, a0_4, a0_5, l0_6⟩ : S26) (Kd.V_reads' (Kd.V_mono (ok' := (fun k_ => ((P0_6_ k_ ∨ P0_10_ k_) ∨ w.heap.size ≤ k_) ∧ k_ ≠ gb122)) (HO0_6.out) (fun k_ hk => ⟨hk.1.1.1.1, hk.1.1.1.2⟩))).2.1 (Kd.V_F (Kd.V_mono (ok' := (fun k_ => ((P0_6_ k_ ∨ P0_10_ k_) ∨ w.heap.size ≤ k_) ∧ k_ ≠ gb122)) (HO0_6.out) (fun k_ hk => ⟨hk.1.1.1.1, hk.1.1.1.2⟩))))) (Reps.c4 (show Kd.FK k26 _ _ (⟨a0_7, a0_8, a0_9, l0_10⟩ : S26) [.int .i64 a0_7, .int .u64 a0_8, .string a0_9, .slice A0_10 l0_10.length c0_10] from (k26_mkF _ _ (⟨a0_7, a0_8, a0_9, l0_10⟩ : S26) (Kd.V_reads' (Kd.V_mono (ok' := (fun k_ => ((P0_6_ k_ ∨ P0_10_ k_) ∨ w.heap.size ≤ k_) ∧ k_ ≠ gb122)) (HO0_10.out) (fun k_ hk => ⟨hk.1.1.1.1, hk.1.1.1.2⟩))).2.1 (Kd.V_F (Kd.V_mono (ok' := (fun k_ => ((P0_6_ k_ ∨ P0_10_ k_) ∨ w.heap.size ≤ k_) ∧ k_ ≠ gb122)) (HO0_10.out) (fun k_ hk => ⟨hk.1.1.1.1, hk.1.1.1.2⟩))))) (Reps.none _ _)))))))
    intro v143 w52 ho53 hb hg_ hnew_
    clear hg_ hnew_
    (first | rw [← Ny142.out] at ho53 | (simp only [Int.reduceToNat] at ho53; rw [← Ny142.out] at ho53))
    have n0_ := am (Kd.V_elder' (pV HO0_6.out) (by first | exact Kd.R_base ho53 | exact Kd.N_base ho53) hb)
    have n1_ := am (Kd.V_elder' (pV HO0_10.out) (by first | exact Kd.R_base ho53 | exact Kd.N_base ho53) hb)
    have n2_ := am (Kd.N_lower ho53 (below_size pB))
    have n3_ := am (pkb BK122.out hb)
    have n4_ := am (below_step pB hb)
    clear HO0_6 HO0_10 BK122 HB HO129 HO135 HO141; have HO0_6 := n0_; have HO0_10 := n1_; have HO144 := n2_; have BK122 := n3_; have HB := n4_; clear n0_ n1_ n2_ n3_ n4_ hb ho53
    obtain ⟨Ao54, co54, eo54⟩ := Kd.N_slice HO144.out
    (first | subst eo54 | (injection eo54 with f1_ f2_ f3_; have f4_ := f1_.symm; have f5_ := f3_.symm; clear f1_ f2_ f3_; subst f4_; subst f5_))
    refine hK.out _ _ ⟨cz0 BK122.out, cz1 BK122.out, cz2 BK122.out, cz3 BK122.out, cz4 BK122.out, cz5 BK122.out, cz6 BK122.out, cz7 BK122.out, cz8 BK122.out, cz9 BK122.out, cz10 BK122.out⟩ (fun hHeld => ?_)
    clear hK K
    refine norm_ (a' := ?_) ?_ ?_
    rotate_left
    ·show Act.put _ (some 29) _ = _
     exact pA
    refine pure_ (i := 14) (N := some 30) (v := ?_) (a' := ?_) (bm 21 32767) rfl rfl (any_of HT_.out (by kernel_rfl)) (fun _ _ _ h => h) (Or.inl ⟨by kernel_rfl, ?_⟩) ?_ ?_
    rotate_left
    ·intro w'
     go_simp
     with_reducible rfl
    rotate_left
    ·exact pA
    refine one_ (i := 15) (N := some 31) (bm 21 65535) rfl rfl (one_of HT_.out (by kernel_rfl)) (by decide) (fun K hK => ?_)
    refine goes_ Tryd.func27 (by kernel_rfl) rfl #[.agg #[.int .i64 2, .int .u64 0, .string (⟨#[]⟩ : ByteArray), .slice Ao54 y142.length co54]] (by rfl) rfl rfl pM ?_
    with_reducible refine (code_Encode.calls k 2 0 (⟨#[]⟩ : ByteArray) _ _ y142 t145 t148 _ ?side1 ?side2 A10.out).mono ?_
    (case side1 => repeat (first | exact (Kd.N_reads' HO144.out).2.2 | (with_reducible refine Kd.C_alloc ?_ _) | (with_reducible refine Kd.C_drewN ?_ _) | (with_reducible refine Kd.C_drew ?_)))
    (case side2 => exact (Kd.N_reads' HO144.out).2.1)
    rintro e w55 ⟨v146, rfl, ho0, hb⟩
    refine ⟨_, rfl, ?_⟩
    have n0_ := am (Kd.V_below (pV HO0_6.out) hb)
    have n1_ := am (Kd.V_below (pV HO0_10.out) hb)
    have n2_ := am (Kd.N_below (pN HO144.out) hb)
    have n3_ := am (Kd.V_lower (Kd.V_mono (ok' := fun k_ => ((P0_6_ k_ ∨ P0_10_ k_) ∨ w.heap.size ≤ k_) ∧ some k_ ≠ (.slice Ao54 y142.length co54 : Value).ownBlock ∧ k_ ≠ gb122) ho0 (fun k_ hk_ => ⟨(.inr (Nat.le_trans (below_size pB) hk_)), (Kd.fresh' (Kd.N_lt (pN HO144.out)) k_ hk_), (Kd.freshB (g := gb122) (o := .cells #[.int .u64 a0_0, .int .u64 a0_1, .slice A0_2 l0_2.length c0_2, .int .i64 a0_3, .int .u64 a0_4, .string a0_5, .slice A0_6 l0_6.length c0_6, .int .i64 a0_7, .int .u64 a0_8, .string a0_9, .slice A0_10 l0_10.length c0_10] 28 (0, 0)) (pK BK122.out) k_ hk_)⟩)) (below_size pB))
    have n4_ := am (pkb BK122.out hb)
    have n5_ := am (below_step pB hb)
    clear HO0_6 HO0_10 HO144 BK122 HB; have HO0_6 := n0_; have HO0_10 := n1_; have HO144 := n2_; have HO147 := n3_; have BK122 := n4_; have HB := n5_; clear n0_ n1_ n2_ n3_ n4_ n5_; (try clear hb); (try clear hb2); (try clear hk); (try clear hi); (try clear ho0)
    refine hK.out _ _ ⟨cz0 BK122.out, cz1 BK122.out, cz2 BK122.out, cz3 BK122.out, cz4 BK122.out, cz5 BK122.out, cz6 BK122.out, cz7 BK122.out, cz8 BK122.out, cz9 BK122.out, cz10 BK122.out⟩ (fun hHeld => ?_)
    clear hK K
    refine norm_ (a' := ?_) ?_ ?_
    rotate_left
    ·show Act.put _ (some 31) _ = _
     exact pA
    refine pure_ (i := 16) (N := some 15) (v := ?_) (a' := ?_) (bm 21 131071) rfl rfl (any_of HT_.out (by kernel_rfl)) (fun _ _ _ h => h) (Or.inl ⟨by kernel_rfl, ?_⟩) ?_ ?_
    rotate_left
    ·intro w'
     go_simp
     with_reducible rfl
    rotate_left
    ·exact pA
    refine pure_ (i := 17) (N := some 32) (v := ?_) (a' := ?_) (bm 21 262143) rfl rfl (any_of HT_.out (by kernel_rfl)) (fun _ _ _ h => h) (Or.inl ⟨by kernel_rfl, ?_⟩) ?_ ?_
    rotate_left
    ·intro w'
     go_simp
     with_reducible rfl
    rotate_left
    ·exact pA
    refine pure_ (i := 18) (N := some 33) (v := ?_) (a' := ?_) (bm 21 524287) rfl rfl (any_of HT_.out (by kernel_rfl)) (fun _ _ _ h => h) (Or.inl ⟨by kernel_rfl, ?_⟩) ?_ ?_
    rotate_left
    ·intro w'
     go_simp
     with_reducible rfl
    rotate_left
    ·exact pA
    refine pure_ (i := 19) (N := some 4) (v := ?_) (a' := ?_) (bm 21 1048575) rfl rfl (any_of HT_.out (by kernel_rfl)) (fun _ _ _ h => h) (Or.inl ⟨by kernel_rfl, ?_⟩) ?_ ?_
    rotate_left
    ·intro w'
     go_simp
     with_reducible rfl
    rotate_left
    ·exact pA
    refine pure_ (i := 20) (N := some 5) (v := ?_) (a' := ?_) (bm 21 2097151) rfl rfl (any_of HT_.out (by kernel_rfl)) (fun _ _ _ h => h) (Or.inl ⟨by kernel_rfl, ?_⟩) ?_ ?_
    rotate_left
    ·intro w'
     go_simp
     with_reducible rfl
    rotate_left
    ·exact pA
    refine done_ (done_of HT_.out (by kernel_rfl)) ?_
    try go_wp2
    go_ret2
    exact ⟨_, pE, pZ, pB⟩
 ·replace c3 := Bool.eq_false_iff.mpr c3
  subst c3
  rw [if_neg (show ¬ (false = true) by decide)] at H
  simp only [Option.some.injEq, Prod.mk.injEq] at H
  obtain ⟨rfl, rfl⟩ := H
  go_enter Tryd.func9, Tryd.ntmps9
  go_wp2_with (first | ((with_reducible refine gate_dst (N := 1) rfl ?_); refine box_event ?hg (N := 1) ?hd (cs := #[.int .u64 a0_0, .int .u64 a0_1, .slice A0_2 l0_2.length c0_2, .int .i64 a0_3, .int .u64 a0_4, .string a0_5, .slice A0_6 l0_6.length c0_6, .int .i64 a0_7, .int .u64 a0_8, .string a0_9, .slice A0_10 l0_10.length c0_10]) (t := 28) ?hr ?_; (case hd => rfl); (case hg => rfl); (case hr => first | (go_simp; done) | (go_simp; rfl)); intro gb122 hg w56 hbox hb; replace HO0_6 := am (Kd.V_below (Kd.V_elderB (pV HO0_6.out) gb122 (Nat.le_of_eq hg.symm)) hb); replace HO0_10 := am (Kd.V_below (Kd.V_elderB (pV HO0_10.out) gb122 (Nat.le_of_eq hg.symm)) hb); have BK122 := am (hbox); have GW122 := am ((by rw [hg]; exact (below_size pB) : w.heap.size ≤ gb122)); have GE122 := am ((by rw [hg]; exact (below_size pB) : w.heap.size ≤ gb122)); replace HB := am (below_step pB hb); clear hb hbox hg; have q57 := cf11 BK122.out) | ((with_reducible refine gate_callee (f := 26) rfl ?_); refine goesL_ (some 9) rfl rfl Tryd.func26 (by kernel_rfl) rfl #[.slice A0_2 l0_2.length c0_2] rfl pM ?_; (with_reducible refine (snap_can.calls k _ _ l0_2 false _ ?side1 ?side2 A2.out).mono ?_); (case side1 => exact pC (Kd.C_below HR0_2.out HB.out)); (case side2 => exact HC0_2.out); rintro e w' ⟨rfl, ⟨nd, rfl⟩⟩; refine ⟨_, rfl, ?_⟩))
  go_ret2
  exact ⟨_, pE, pZ, pB⟩
end Go.Proofs.YtlkaffbgekbcfaaDoor.Pr
end
section
namespace Go.Proofs.YtlkaffbgekbcfaaDoor.Pr
open Go.RowKit Go.Proofs.YtlkaffbgekbcfaaDoorW.PrintWords Go.Proofs.YtlkaffbgekbcfaaDoorW.PrintLast Go.Proofs.YtlkaffbgekbcfaaDoorW.PrintMore
attribute [local go_sem] max2_int min2_int max_two min_two max_three min_three max_four min_four
def snap_Members.f (k : Nat) (l0 : List Int) : Option (Bool) := (snap_can.f k l0).bind fun t153 => (some t153)
theorem snap_Members.mono : ∀ a0 k, LeO (snap_Members.f k a0) (snap_Members.f (k + 1) a0) := by
 intro a0 k
 unfold snap_Members.f
 repeat' first
   | (with_reducible exact snap_can.mono _ _)
   | (with_reducible exact LeO.refl _)
   | (with_reducible exact LeO.none _)
   | (with_reducible refine LeO.ite ?_ ?_)
   | (with_reducible refine LeO.bind ?_ (fun _ => ?_))
   | exact snap_can.mono _ _
   | exact LeO.none _
   | refine LeO.ite ?_ ?_
   | refine LeO.bind ?_ (fun _ => ?_)
set_option maxHeartbeats 8000000 in
set_option maxRecDepth 100000 in
theorem snap_Members.calls (k : Nat) (A0 : Option Addr) (c0 : Nat) (l0 : List Int) (r : Bool) (w : World) (hr0 : Kd.C (Kd.int .i64) w A0 l0.length l0) (hc0 : l0.length ≤ c0) (h : snap_Members.f k l0 = some r) :
  Calls Tryd.prog 12 #[.slice A0 l0.length c0] w fun e w' => e = .returned (.bool r) ∧ Drawn0 w w' := by
 have HR0 := am hr0
 have HC0 := am hc0
 clear hr0 hc0
 have H : ((snap_can.f k l0).bind fun t153 => (some t153)) = some r := h
 clear h
 replace H := Option.bind_eq_some_iff.mp H
 obtain ⟨t153, A20, H⟩ := H
 try dsimp only at H
 have A2 := am A20
 clear A20
 obtain rfl := Option.some.inj H
 go_enter Tryd.func12, Tryd.ntmps12
 go_wp2_with (first | ((with_reducible refine gate_callee (f := 26) rfl ?_); refine goesL_ (some 4) rfl rfl Tryd.func26 (by kernel_rfl) rfl #[.slice A0 l0.length c0] rfl pM ?_; (with_reducible refine (snap_can.calls k _ _ l0 t153 _ ?side1 ?side2 A2.out).mono ?_); (case side1 => exact pC HR0.out); (case side2 => exact HC0.out); rintro e w' ⟨rfl, ⟨nd, rfl⟩⟩; refine ⟨_, rfl, ?_⟩))
 go_ret
 exact ⟨by first | rfl | (simp; done) | (simp [*]; done), by repeat (first | exact Drawn0.refl _ | apply Drawn0.step)⟩
def frame_First.f (l0 : List Int) : Option (List Int × Int × Int) := (frame_first.f l0).bind fun bt154 => (some (bt154.1, bt154.2.1, bt154.2.2))
set_option maxHeartbeats 8000000 in
set_option maxRecDepth 100000 in
theorem frame_First.calls (A0 : Option Addr) (c0 : Nat) (l0 : List Int) (r1 : List Int) (r2 : Int) (r3 : Int) (w : World) (hr0 : Kd.C (Kd.int .u8) w A0 l0.length l0) (hc0 : l0.length ≤ c0) (hG : QuarterLaid w) (h : frame_First.f l0 = some (r1, r2, r3)) :
  Calls Tryd.prog 36 #[.slice A0 l0.length c0] w fun e w' => ∃ v0_ : Value, e = .returned (.tuple #[v0_, .int .i64 r2, .int .i64 r3]) ∧ Kd.R (Kd.int .u8) 5 w' w.heap.size (fun _ => True) v0_ r1 ∧ Below w.heap.size w w' := by
 have HR0 := am hr0
 have HC0 := am hc0
 clear hr0 hc0
 have HG := am hG
 clear hG
 have HB := am (Below.refl w.heap.size w)
 have H : ((frame_first.f l0).bind fun bt154 => (some (bt154.1, bt154.2.1, bt154.2.2))) = some (r1, r2, r3) := h
 clear h
 replace H := Option.bind_eq_some_iff.mp H
 obtain ⟨⟨t154, t155, t156⟩, A20, H⟩ := H
 try dsimp only at H
 have A2 := am A20
 clear A20
 simp only [Option.some.injEq, Prod.mk.injEq] at H
 obtain ⟨rfl, rfl, rfl⟩ := H
 go_enter Tryd.func36, Tryd.ntmps36
 go_wp2_with (first | ((with_reducible refine gate_callee (f := 54) rfl ?_); refine goesL_ (some 6) rfl rfl Tryd.func54 (by kernel_rfl) rfl #[.slice A0 l0.length c0] rfl pM ?_; (with_reducible refine (frame_first.calls _ _ l0 t154 t155 t156 _ ?side1 ?side2 ?side3 A2.out).mono ?_); (case side1 => exact pC HR0.out); (case side2 => exact HC0.out); (case side3 => exact pG); rintro e w3 ⟨v157, rfl, ho0, hb⟩; refine ⟨_, rfl, ?_⟩; have HO158 := am (Kd.R_lower ho0 (below_size pB)); replace HB := am (below_step pB hb); (try clear hb); (try clear hb2); (try clear hk); (try clear hi); (try clear ho0)))
 go_ret3
 exact ⟨_, pE, by (with_reducible repeat (first | apply Kd.R_alloc | apply Kd.R_drewN | apply Kd.R_drew)); exact HO158.out, pB⟩
def snap_read.l0 : Nat → List Int → List (S26) → Int → Int → Option (List Int × Bool)
 | 0, _, _, _, _ => none
 | k + 1, x4, x11, x12, x13 => if x13 < x12 then (if 0 ≤ x13 then (if x13 < (x11.length : Int) then (if ((rd_T26 x11 x13).f0) = 0 then (if ((rd_T26 x11 x13).f1) > 64 then (some (([] : List Int), false)) else (if x4.length < 17592186044416 then (snap_read.l0 k (x4 ++ [wrap64 ((rd_T26 x11 x13).f1)]) x11 x12 (wrap64 (x13 + 1))) else (none))) else (some (([] : List Int), false))) else (none)) else (none)) else ((snap_can.f k x4).bind fun t165 => (some (x4, t165)))
def snap_read.f (k : Nat) (a0_0 : Int) (a0_1 : Int) (a0_2 : ByteArray) (l0_3 : List (S26)) : Option (List Int × Bool) := if a0_0 = 2 then (snap_read.l0 k ([] : List Int) l0_3 (l0_3.length : Int) 0) else (some (([] : List Int), false))
theorem snap_read.mono_l : ∀ k, (∀ y0 y1 y2 y3, LeO (snap_read.l0 k y0 y1 y2 y3) (snap_read.l0 (k + 1) y0 y1 y2 y3))
 | 0 => fun _ _ _ _ r h => by simp [snap_read.l0] at h
 | k + 1 => by
  have ih0 := snap_read.mono_l k
  ·intro y0 y1 y2 y3
   unfold snap_read.l0
   repeat' first
   | (with_reducible exact ih0 _ _ _ _)
   | (with_reducible exact snap_can.mono _ _)
   | (with_reducible exact LeO.refl _)
   | (with_reducible exact LeO.none _)
   | (with_reducible refine LeO.ite ?_ ?_)
   | (with_reducible refine LeO.bind ?_ (fun _ => ?_))
   | exact ih0 _ _ _ _
   | exact snap_can.mono _ _
   | exact LeO.none _
   | refine LeO.ite ?_ ?_
   | refine LeO.bind ?_ (fun _ => ?_)
theorem snap_read.mono : ∀ a0 a1 a2 a3 k, LeO (snap_read.f k a0 a1 a2 a3) (snap_read.f (k + 1) a0 a1 a2 a3) := by
 intro a0 a1 a2 a3 k
 have ih0 := snap_read.mono_l k
 unfold snap_read.f
 repeat' first
   | (with_reducible exact ih0 _ _ _ _)
   | (with_reducible exact snap_can.mono _ _)
   | (with_reducible exact LeO.refl _)
   | (with_reducible exact LeO.none _)
   | (with_reducible refine LeO.ite ?_ ?_)
   | (with_reducible refine LeO.bind ?_ (fun _ => ?_))
   | exact ih0 _ _ _ _
   | exact snap_can.mono _ _
   | exact LeO.none _
   | refine LeO.ite ?_ ?_
   | refine LeO.bind ?_ (fun _ => ?_)
set_option maxHeartbeats 8000000 in
set_option maxRecDepth 100000 in
theorem snap_read.calls (k : Nat) (a0_0 : Int) (a0_1 : Int) (a0_2 : ByteArray) (A0_3 : Option Addr) (c0_3 : Nat) (l0_3 : List (S26)) (r1 : List Int) (r2 : Bool) (w : World) (hr0_3 : Kd.C k26 w A0_3 l0_3.length l0_3) (hc0_3 : l0_3.length ≤ c0_3) (h : snap_read.f k a0_0 a0_1 a0_2 l0_3 = some (r1, r2)) :
  Calls Tryd.prog 38 #[.agg #[.int .i64 a0_0, .int .u64 a0_1, .string a0_2, .slice A0_3 l0_3.length c0_3]] w fun e w' => ∃ v0_ : Value, e = .returned (.tuple #[v0_, .bool r2]) ∧ Kd.R (Kd.int .i64) 3 w' w.heap.size (fun _ => True) v0_ r1 ∧ Below w.heap.size w w' := by
 have hu26 := Tryd.underlying26
 have HR0_3 := am hr0_3
 have HC0_3 := am hc0_3
 clear hr0_3 hc0_3
 have HB := am (Below.refl w.heap.size w)
 have H : (if a0_0 = 2 then (snap_read.l0 k ([] : List Int) l0_3 (l0_3.length : Int) 0) else (some (([] : List Int), false))) = some (r1, r2) := h
 clear h
 by_cases c2 : a0_0 = 2
 ·rw [if_pos c2] at H
  have c2b0 : (a0_0 == 2) = true := beq_iff_eq.mpr c2
  have c2b1 : (a0_0 != 2) = false := bne_eq_false_iff_eq.mpr c2
  clear c2
  have H' := am H
  clear H
  go_enter Tryd.func38, Tryd.ntmps38
  go_wp2_with (first | ((with_reducible refine gate_dst (N := 1) rfl ?_); refine box_event ?hg (N := 1) ?hd (cs := #[.int .i64 a0_0, .int .u64 a0_1, .string a0_2, .slice A0_3 l0_3.length c0_3]) (t := 26) ?hr ?_; (case hd => rfl); (case hg => rfl); (case hr => first | (go_simp; done) | (go_simp; rfl)); intro gb159 hg w3 hbox hb; have BK159 := am (hbox); have GW159 := am ((by rw [hg]; exact (below_size pB) : w.heap.size ≤ gb159)); have GE159 := am ((by rw [hg]; exact (below_size pB) : w.heap.size ≤ gb159)); replace HB := am (below_step pB hb); clear hb hbox hg; have q4 := cf4 BK159.out))
  go_loopg [4, 13] k (fun kq v4 v13 w' => ∃ (x4_1 : List Int) (x13_1 : Int), v13 = .int .i64 x13_1 ∧ Aside0 (snap_read.l0 kq x4_1 l0_3 (l0_3.length : Int) x13_1 = some (r1, r2)) ∧ Aside0 (kq ≤ k) ∧ Aside0 (Kd.R (Kd.int .i64) 3 w' w.heap.size (fun _ => True) v4 x4_1) ∧ Aside0 (w'.heap[gb159]? = some (.cells #[.int .i64 a0_0, .int .u64 a0_1, .string a0_2, (.slice A0_3 l0_3.length c0_3)] 26 (0, 0))) ∧ Aside0 (Below w.heap.size w w'))
  case atStart => exact ⟨(([] : List Int)), (0), (by first | rfl | (simp; done) | (simp [*]; done)), H', ⟨Nat.le_refl _⟩, ⟨pZ⟩, ⟨by (with_reducible repeat (first | refine blk_drewN ?_ _ | refine blk_drew ?_ | refine blk_alloc ?_ _)); exact BK159.out⟩, ⟨pB⟩⟩
  case round =>
   clear H'
   try clear c2
   try clear c2b0
   try clear c2b1
   try clear p2
   try clear c3
   try clear q4
   obtain ⟨x4_1, x13_1, rfl, HA, HK1, HO_4, BK159, HB⟩ := hrel
   cases gk with
   | zero => exact absurd HA.out (by simp [snap_read.l0])
   | succ k1 =>
    have H := HA.out
    clear HA
    simp only [snap_read.l0] at H
    by_cases c5 : x13_1 < (l0_3.length : Int)
    ·rw [if_pos c5] at H
     have c5b0 : decide (x13_1 < (l0_3.length : Int)) = true := decide_eq_true c5
     clear c5
     by_cases c6 : 0 ≤ x13_1
     ·rw [if_pos c6] at H
      have c6b0 : decide (0 ≤ x13_1) = true := decide_eq_true c6
      clear c6
      by_cases c7 : x13_1 < (l0_3.length : Int)
      ·rw [if_pos c7] at H
       have c7b0 : decide (x13_1 < (l0_3.length : Int)) = true := decide_eq_true c7
       clear c7
       by_cases c8 : ((rd_T26 l0_3 x13_1).f0) = 0
       ·rw [if_pos c8] at H
        have c8b0 : (((rd_T26 l0_3 x13_1).f0) == 0) = true := beq_iff_eq.mpr c8
        have c8b1 : (((rd_T26 l0_3 x13_1).f0) != 0) = false := bne_eq_false_iff_eq.mpr c8
        clear c8
        by_cases c9 : ((rd_T26 l0_3 x13_1).f1) > 64
        ·rw [if_pos c9] at H
         have c9b0 : decide (64 < ((rd_T26 l0_3 x13_1).f1)) = true := decide_eq_true c9
         clear c9
         simp only [Option.some.injEq, Prod.mk.injEq] at H
         obtain ⟨rfl, rfl⟩ := H
         have p160 : 0 ≤ (x13_1 : Int) := pD
         have q160 : x13_1 < (l0_3.length : Int) := pD
         obtain ⟨ad160, A160_3, c160_3, e160, hx160_0, hx160_1, hx160_2, hx160_3, hl160_3, hi160_3⟩ := at_T26 HR0_3.out x13_1 p160 q160
         cases e160
         replace hx160_0 := (HB.out.cell (World.block_lt_of_cell? w _ hx160_0)).trans hx160_0
         replace hx160_1 := (HB.out.cell (World.block_lt_of_cell? w _ hx160_1)).trans hx160_1
         replace hx160_2 := (HB.out.cell (World.block_lt_of_cell? w _ hx160_2)).trans hx160_2
         replace hx160_3 := (HB.out.cell (World.block_lt_of_cell? w _ hx160_3)).trans hx160_3
         have HR160_3 := am hi160_3
         have HC160_3 := am hl160_3
         clear hi160_3 hl160_3
         replace p160 := eq_true p160
         replace q160 := eq_true q160
         go_wp2_with (first | ((with_reducible refine gate_dst (N := 6) rfl ?_); refine box_event ?hg (N := 6) ?hd (cs := #[.int .i64 0, .int .u64 0, .string (⟨#[]⟩ : ByteArray), .slice none 0 0]) (t := 26) ?hr ?_; (case hd => rfl); (case hg => rfl); (case hr => first | (go_simp; done) | (go_simp; rfl)); intro gb161 hg w10 hbox hb; replace HO_4 := am (Kd.R_below (pR HO_4.out) hb); have BK161 := am (hbox); have GW161 := am ((by rw [hg]; exact (below_size pB) : w.heap.size ≤ gb161)); have GE161 := am ((by rw [hg]; exact (below_size pB) : w.heap.size ≤ gb161)); have NB159_161 := am ((by rw [hg]; exact Nat.ne_of_lt (pkl BK159.out) : gb159 ≠ gb161)); have NB161_159 := am ((by rw [hg]; exact Nat.ne_of_gt (pkl BK159.out) : gb161 ≠ gb159)); replace BK159 := am (pkb BK159.out hb); replace HB := am (below_step pB hb); clear hb hbox hg; have hnb11 := NB161_159.out; have hnc11 := NB159_161.out; have q12 := cf4 BK161.out))
         go_ret2
         exact ⟨_, pE, pZ, pB⟩
        ·rw [if_neg c9] at H
         have c9b0 : decide (64 < ((rd_T26 l0_3 x13_1).f1)) = false := decide_eq_false c9
         clear c9
         by_cases c13 : x4_1.length < 17592186044416
         ·rw [if_pos c13] at H
          have LMc13 := am c13
          clear c13
          obtain ⟨y162, hy162⟩ : ∃ y_ : List Int, y_ = (x4_1 ++ [wrap64 ((rd_T26 l0_3 x13_1).f1)]) := ⟨_, rfl⟩
          replace H : (snap_read.l0 k1 y162 l0_3 (l0_3.length : Int) (wrap64 (x13_1 + 1))) = some (r1, r2) := by first | (rw [hy162]; with_reducible exact H) | (have H2_ := (Option.bind_some _ _).symm.trans H; rw [hy162]; with_reducible exact H2_) | (have H2_ := (Option.bind_some _ _).symm.trans H; with_reducible exact H2_) | with_reducible exact H | (rw [hy162]; exact H) | exact H
          have Ny162 := am hy162
          clear hy162
          have H' := am H
          clear H
          have p160 : 0 ≤ (x13_1 : Int) := pD
          have q160 : x13_1 < (l0_3.length : Int) := pD
          obtain ⟨ad160, A160_3, c160_3, e160, hx160_0, hx160_1, hx160_2, hx160_3, hl160_3, hi160_3⟩ := at_T26 HR0_3.out x13_1 p160 q160
          cases e160
          replace hx160_0 := (HB.out.cell (World.block_lt_of_cell? w _ hx160_0)).trans hx160_0
          replace hx160_1 := (HB.out.cell (World.block_lt_of_cell? w _ hx160_1)).trans hx160_1
          replace hx160_2 := (HB.out.cell (World.block_lt_of_cell? w _ hx160_2)).trans hx160_2
          replace hx160_3 := (HB.out.cell (World.block_lt_of_cell? w _ hx160_3)).trans hx160_3
          have HR160_3 := am hi160_3
          have HC160_3 := am hl160_3
          clear hi160_3 hl160_3
          replace p160 := eq_true p160
          replace q160 := eq_true q160
          go_wp2_with (first | ((with_reducible refine gate_dst (N := 6) rfl ?_); refine box_event ?hg (N := 6) ?hd (cs := #[.int .i64 0, .int .u64 0, .string (⟨#[]⟩ : ByteArray), .slice none 0 0]) (t := 26) ?hr ?_; (case hd => rfl); (case hg => rfl); (case hr => first | (go_simp; done) | (go_simp; rfl)); intro gb161 hg w14 hbox hb; replace HO_4 := am (Kd.R_below (pR HO_4.out) hb); have BK161 := am (hbox); have GW161 := am ((by rw [hg]; exact (below_size pB) : w.heap.size ≤ gb161)); have GE161 := am ((by rw [hg]; exact (below_size pB) : w.heap.size ≤ gb161)); have NB159_161 := am ((by rw [hg]; exact Nat.ne_of_lt (pkl BK159.out) : gb159 ≠ gb161)); have NB161_159 := am ((by rw [hg]; exact Nat.ne_of_gt (pkl BK159.out) : gb161 ≠ gb159)); replace BK159 := am (pkb BK159.out hb); replace HB := am (below_step pB hb); clear hb hbox hg; have hnb15 := NB161_159.out; have hnc15 := NB159_161.out; have q16 := cf4 BK161.out) | ((with_reducible refine gate_builtin (b := .append) (xs := #[.tmp 25, .tmp 29]) rfl ?_); at_builtin; refine Kd.R_append (Kd.int .i64) (w0 := w) w.heap.size rfl (.tmp 25) (.tmp 29) 23 3 (.int .i64 0) 8 rfl Tryd.underlying23 info3 rfl (by decide) (by omega) u4 x4_1 (wrap64 ((rd_T26 l0_3 x13_1).f1)) [.int .i64 (wrap64 ((rd_T26 l0_3 x13_1).f1))] (fun _ => True) (fun _ => False) rfl (by first | (go_simp; done) | (go_simp; rfl)) ?aP (fun _ hk => hk.elim) ?aF ?aO ?aB ?aS ?aL ?_; (case aP => exact rfl); (case aB => exact pB); (case aF => exact (fun _ _ => trivial)); (case aO => exact (by (with_reducible repeat (first | apply Kd.R_alloc | apply Kd.R_drewN | apply Kd.R_drew)); exact Kd.R_mono (Kd.R_far (p := ⟨gb161, 3, none⟩) (Kd.R_far (p := ⟨gb161, 2, none⟩) (Kd.R_far (p := ⟨gb161, 1, none⟩) (Kd.R_far (p := ⟨gb161, 0, none⟩) (Kd.R_types HO_4.out BK161.out (by decide)) (fun _ hk => hk.2) (.int .i64 ((rd_T26 l0_3 x13_1).f0))) (fun _ hk => hk.2) (.int .u64 ((rd_T26 l0_3 x13_1).f1))) (fun _ hk => hk.2) (.string ((rd_T26 l0_3 x13_1).f2))) (fun _ hk => hk.2) (.slice A160_3 ((rd_T26 l0_3 x13_1).f3).length c160_3)) (fun _ hk => trivial))); (case aS => exact (below_size pB)); (case aL => have := LMc13.out; omega); intro v163 w17 ho hb hg hat; rw [← Ny162.out] at ho; replace BK159 := am (blk_grown (g := gb159) (o := .cells #[.int .i64 a0_0, .int .u64 a0_1, .string a0_2, .slice (some ad160) l0_3.length c0_3] 26 (0, 0)) (by (with_reducible repeat (first | refine blk_drewN ?_ _ | refine blk_drew ?_ | refine blk_alloc ?_ _)); refine blk_far ?_ NB159_161.out _; (with_reducible repeat (first | refine blk_drewN ?_ _ | refine blk_drew ?_ | refine blk_alloc ?_ _)); refine blk_far ?_ NB159_161.out _; (with_reducible repeat (first | refine blk_drewN ?_ _ | refine blk_drew ?_ | refine blk_alloc ?_ _)); refine blk_far ?_ NB159_161.out _; (with_reducible repeat (first | refine blk_drewN ?_ _ | refine blk_drew ?_ | refine blk_alloc ?_ _)); refine blk_far ?_ NB159_161.out _; (with_reducible repeat (first | refine blk_drewN ?_ _ | refine blk_drew ?_ | refine blk_alloc ?_ _)); exact BK159.out) hg (pX HO_4.out BK159.out)); replace BK161 := am (blk_grown (g := gb161) (o := .cells #[.int .i64 ((rd_T26 l0_3 x13_1).f0), .int .u64 ((rd_T26 l0_3 x13_1).f1), .string ((rd_T26 l0_3 x13_1).f2), .slice A160_3 ((rd_T26 l0_3 x13_1).f3).length c160_3] 26 (0, 0)) (by (with_reducible repeat (first | refine blk_drewN ?_ _ | refine blk_drew ?_ | refine blk_alloc ?_ _)); refine blk_put (cs := #[.int .i64 ((rd_T26 l0_3 x13_1).f0), .int .u64 ((rd_T26 l0_3 x13_1).f1), .string ((rd_T26 l0_3 x13_1).f2), .slice none 0 0]) ?_ 3 _ rfl; (with_reducible repeat (first | refine blk_drewN ?_ _ | refine blk_drew ?_ | refine blk_alloc ?_ _)); refine blk_put (cs := #[.int .i64 ((rd_T26 l0_3 x13_1).f0), .int .u64 ((rd_T26 l0_3 x13_1).f1), .string (⟨#[]⟩ : ByteArray), .slice none 0 0]) ?_ 2 _ rfl; (with_reducible repeat (first | refine blk_drewN ?_ _ | refine blk_drew ?_ | refine blk_alloc ?_ _)); refine blk_put (cs := #[.int .i64 ((rd_T26 l0_3 x13_1).f0), .int .u64 0, .string (⟨#[]⟩ : ByteArray), .slice none 0 0]) ?_ 1 _ rfl; (with_reducible repeat (first | refine blk_drewN ?_ _ | refine blk_drew ?_ | refine blk_alloc ?_ _)); refine blk_put (cs := #[.int .i64 0, .int .u64 0, .string (⟨#[]⟩ : ByteArray), .slice none 0 0]) ?_ 0 _ rfl; (with_reducible repeat (first | refine blk_drewN ?_ _ | refine blk_drew ?_ | refine blk_alloc ?_ _)); exact BK161.out) hg (pX HO_4.out BK161.out)); replace HB := am (hb); have HO164 := am (ho); clear HO_4; clear ho hb hg hat))
          go_roundg k1
          case measure => have := HK1.out; omega
          case rel => exact ⟨(y162), (wrap64 (x13_1 + 1)), (by first | rfl | (simp; done) | (simp [*]; done)), H', ⟨by have := HK1.out; omega⟩, ⟨by (with_reducible repeat (first | apply Kd.R_alloc | apply Kd.R_drewN | apply Kd.R_drew)); exact HO164.out⟩, ⟨by (with_reducible repeat (first | refine blk_drewN ?_ _ | refine blk_drew ?_ | refine blk_alloc ?_ _)); exact BK159.out⟩, ⟨pB⟩⟩
         ·rw [if_neg c13] at H
          exact absurd H (by simp)
       ·rw [if_neg c8] at H
        have c8b0 : (((rd_T26 l0_3 x13_1).f0) == 0) = false := beq_eq_false_iff_ne.mpr c8
        have c8b1 : (((rd_T26 l0_3 x13_1).f0) != 0) = true := bne_iff_ne.mpr c8
        simp only [Option.some.injEq, Prod.mk.injEq] at H
        obtain ⟨rfl, rfl⟩ := H
        have p160 : 0 ≤ (x13_1 : Int) := pD
        have q160 : x13_1 < (l0_3.length : Int) := pD
        obtain ⟨ad160, A160_3, c160_3, e160, hx160_0, hx160_1, hx160_2, hx160_3, hl160_3, hi160_3⟩ := at_T26 HR0_3.out x13_1 p160 q160
        cases e160
        replace hx160_0 := (HB.out.cell (World.block_lt_of_cell? w _ hx160_0)).trans hx160_0
        replace hx160_1 := (HB.out.cell (World.block_lt_of_cell? w _ hx160_1)).trans hx160_1
        replace hx160_2 := (HB.out.cell (World.block_lt_of_cell? w _ hx160_2)).trans hx160_2
        replace hx160_3 := (HB.out.cell (World.block_lt_of_cell? w _ hx160_3)).trans hx160_3
        have HR160_3 := am hi160_3
        have HC160_3 := am hl160_3
        clear hi160_3 hl160_3
        replace p160 := eq_true p160
        replace q160 := eq_true q160
        go_wp2_with (first | ((with_reducible refine gate_dst (N := 6) rfl ?_); refine box_event ?hg (N := 6) ?hd (cs := #[.int .i64 0, .int .u64 0, .string (⟨#[]⟩ : ByteArray), .slice none 0 0]) (t := 26) ?hr ?_; (case hd => rfl); (case hg => rfl); (case hr => first | (go_simp; done) | (go_simp; rfl)); intro gb161 hg w18 hbox hb; replace HO_4 := am (Kd.R_below (pR HO_4.out) hb); have BK161 := am (hbox); have GW161 := am ((by rw [hg]; exact (below_size pB) : w.heap.size ≤ gb161)); have GE161 := am ((by rw [hg]; exact (below_size pB) : w.heap.size ≤ gb161)); have NB159_161 := am ((by rw [hg]; exact Nat.ne_of_lt (pkl BK159.out) : gb159 ≠ gb161)); have NB161_159 := am ((by rw [hg]; exact Nat.ne_of_gt (pkl BK159.out) : gb161 ≠ gb159)); replace BK159 := am (pkb BK159.out hb); replace HB := am (below_step pB hb); clear hb hbox hg; have hnb19 := NB161_159.out; have hnc19 := NB159_161.out; have q20 := cf4 BK161.out))
        go_ret2
        exact ⟨_, pE, pZ, pB⟩
      ·rw [if_neg c7] at H
       exact absurd H (by simp)
     ·rw [if_neg c6] at H
      exact absurd H (by simp)
    ·rw [if_neg c5] at H
     have c5b0 : decide (x13_1 < (l0_3.length : Int)) = false := decide_eq_false c5
     clear c5
     replace H := Option.bind_eq_some_iff.mp H
     obtain ⟨t165, A210, H⟩ := H
     try dsimp only at H
     have A21 := am A210
     clear A210
     simp only [Option.some.injEq, Prod.mk.injEq] at H
     obtain ⟨rfl, rfl⟩ := H
     obtain ⟨Ao22, co22, eo22⟩ := Kd.R_slice HO_4.out
     subst eo22
     go_wp2_with (first | ((with_reducible refine gate_callee (f := 26) rfl ?_); refine goesL_ (some 34) rfl rfl Tryd.func26 (by kernel_rfl) rfl #[.slice Ao22 x4_1.length co22] rfl pM ?_; (with_reducible refine (snap_can.calls k1 _ _ x4_1 t165 _ ?side1 ?side2 A21.out).mono ?_); (case side1 => repeat (first | exact (Kd.R_reads' HO_4.out).2.2 | (with_reducible refine Kd.C_alloc ?_ _) | (with_reducible refine Kd.C_drewN ?_ _) | (with_reducible refine Kd.C_drew ?_))); (case side2 => exact (Kd.R_reads' HO_4.out).2.1); rintro e w' ⟨rfl, ⟨nd, rfl⟩⟩; refine ⟨_, rfl, ?_⟩))
     go_ret2
     exact ⟨_, pE, by (with_reducible repeat (first | apply Kd.R_alloc | apply Kd.R_drewN | apply Kd.R_drew)); exact HO_4.out, pB⟩
 ·rw [if_neg c2] at H
  have c2b0 : (a0_0 == 2) = false := beq_eq_false_iff_ne.mpr c2
  have c2b1 : (a0_0 != 2) = true := bne_iff_ne.mpr c2
  simp only [Option.some.injEq, Prod.mk.injEq] at H
  obtain ⟨rfl, rfl⟩ := H
  go_enter Tryd.func38, Tryd.ntmps38
  go_wp2_with (first | ((with_reducible refine gate_dst (N := 1) rfl ?_); refine box_event ?hg (N := 1) ?hd (cs := #[.int .i64 a0_0, .int .u64 a0_1, .string a0_2, .slice A0_3 l0_3.length c0_3]) (t := 26) ?hr ?_; (case hd => rfl); (case hg => rfl); (case hr => first | (go_simp; done) | (go_simp; rfl)); intro gb159 hg w23 hbox hb; have BK159 := am (hbox); have GW159 := am ((by rw [hg]; exact (below_size pB) : w.heap.size ≤ gb159)); have GE159 := am ((by rw [hg]; exact (below_size pB) : w.heap.size ≤ gb159)); replace HB := am (below_step pB hb); clear hb hbox hg; have q24 := cf4 BK159.out))
  go_ret2
  exact ⟨_, pE, pZ, pB⟩
end Go.Proofs.YtlkaffbgekbcfaaDoor.Pr
end
section
namespace Go.Proofs.YtlkaffbgekbcfaaDoor.Pr
open Go.RowKit Go.Proofs.YtlkaffbgekbcfaaDoorW.PrintWords Go.Proofs.YtlkaffbgekbcfaaDoorW.PrintLast Go.Proofs.YtlkaffbgekbcfaaDoorW.PrintMore
attribute [local go_sem] max2_int min2_int max_two min_two max_three min_three max_four min_four
mutual
def snap_Load.j0 : Nat → List Int → Bool → Option (Int × Int × List Int × Int × Int × ByteArray × (List (S26)) × Int × Int × ByteArray × (List (S26)) × Int)
 | 0, _, _ => none
 | k + 1, x4, x27 => if x27 = true then (some (0, 0, ([] : List Int), 0, 0, (⟨#[]⟩ : ByteArray), ([] : List (S26)), 0, 0, (⟨#[]⟩ : ByteArray), ([] : List (S26)), 4)) else ((code_Decode.f k x4).bind fun bt172 => (if bt172.2.2.2.2 = 0 then (if bt172.1 = 2 then (if (bt172.2.2.2.1.length : Int) = 5 then (if 0 < (bt172.2.2.2.1.length : Int) then (if ((rd_T26 bt172.2.2.2.1 0).f0) = 0 then (if 1 < (bt172.2.2.2.1.length : Int) then (snap_Load.j1 k (((rd_T26 bt172.2.2.2.1 1).f0) != 0) bt172.1 bt172.2.1 bt172.2.2.1 bt172.2.2.2.1) else (none)) else (snap_Load.j1 k true bt172.1 bt172.2.1 bt172.2.2.1 bt172.2.2.2.1)) else (none)) else (snap_Load.j1 k true bt172.1 bt172.2.1 bt172.2.2.1 bt172.2.2.2.1)) else (snap_Load.j1 k true bt172.1 bt172.2.1 bt172.2.2.1 bt172.2.2.2.1)) else (snap_Load.j1 k true bt172.1 bt172.2.1 bt172.2.2.1 bt172.2.2.2.1)))
def snap_Load.j1 : Nat → Bool → Int → Int → ByteArray → List (S26) → Option (Int × Int × List Int × Int × Int × ByteArray × (List (S26)) × Int × Int × ByteArray × (List (S26)) × Int)
 | 0, _, _, _, _, _ => none
 | k + 1, x62, x180000, x180001, x180002, x180003 => if x62 = true then (some (0, 0, ([] : List Int), 0, 0, (⟨#[]⟩ : ByteArray), ([] : List (S26)), 0, 0, (⟨#[]⟩ : ByteArray), ([] : List (S26)), 4)) else (if 2 < (x180003.length : Int) then ((snap_read.f k ((rd_T26 x180003 2).f0) ((rd_T26 x180003 2).f1) ((rd_T26 x180003 2).f2) ((rd_T26 x180003 2).f3)).bind fun bt183 => (if bt183.2 = true then (if 0 < (x180003.length : Int) then (if ((rd_T26 x180003 0).f1) > 4611686018427387904 then (some (0, 0, ([] : List Int), 0, 0, (⟨#[]⟩ : ByteArray), ([] : List (S26)), 0, 0, (⟨#[]⟩ : ByteArray), ([] : List (S26)), 4)) else (if 1 < (x180003.length : Int) then (if 3 < (x180003.length : Int) then (if 4 < (x180003.length : Int) then (some ((rd_T26 x180003 0).f1, (rd_T26 x180003 1).f1, bt183.1, (rd_T26 x180003 3).f0, (rd_T26 x180003 3).f1, (rd_T26 x180003 3).f2, (rd_T26 x180003 3).f3, (rd_T26 x180003 4).f0, (rd_T26 x180003 4).f1, (rd_T26 x180003 4).f2, (rd_T26 x180003 4).f3, 0)) else (none)) else (none)) else (none))) else (none)) else (some (0, 0, ([] : List Int), 0, 0, (⟨#[]⟩ : ByteArray), ([] : List (S26)), 0, 0, (⟨#[]⟩ : ByteArray), ([] : List (S26)), 4)))) else (none))
end
def snap_Load.f (k : Nat) (l0 : List Int) : Option (Int × Int × List Int × Int × Int × ByteArray × (List (S26)) × Int × Int × ByteArray × (List (S26)) × Int) := (frame_First.f l0).bind fun bt167 => (if (bt167.1.length : Int) > 1048320 then (some (0, 0, ([] : List Int), 0, 0, (⟨#[]⟩ : ByteArray), ([] : List (S26)), 0, 0, (⟨#[]⟩ : ByteArray), ([] : List (S26)), 4)) else (if bt167.2.2 = 0 then (snap_Load.j0 k bt167.1 (bt167.2.1 != (l0.length : Int))) else (snap_Load.j0 k bt167.1 true)))
theorem snap_Load.mono_l : ∀ k, (∀ y0 y1, LeO (snap_Load.j0 k y0 y1) (snap_Load.j0 (k + 1) y0 y1)) ∧ (∀ y0 y1 y2 y3 y4, LeO (snap_Load.j1 k y0 y1 y2 y3 y4) (snap_Load.j1 (k + 1) y0 y1 y2 y3 y4))
 | 0 => ⟨fun _ _ r h => by simp [snap_Load.j0] at h, fun _ _ _ _ _ r h => by simp [snap_Load.j1] at h⟩
 | k + 1 => by
  obtain ⟨ih0, ih1⟩ := snap_Load.mono_l k
  refine ⟨?_, ?_⟩
  ·intro y0 y1
   unfold snap_Load.j0
   repeat' first
   | (with_reducible exact ih0 _ _)
   | (with_reducible exact ih1 _ _ _ _ _)
   | (with_reducible exact code_Decode.mono _ _)
   | (with_reducible exact snap_read.mono _ _ _ _ _)
   | (with_reducible exact LeO.refl _)
   | (with_reducible exact LeO.none _)
   | (with_reducible refine LeO.ite ?_ ?_)
   | (with_reducible refine LeO.bind ?_ (fun _ => ?_))
   | exact ih0 _ _
   | exact ih1 _ _ _ _ _
   | exact code_Decode.mono _ _
   | exact snap_read.mono _ _ _ _ _
   | exact LeO.none _
   | refine LeO.ite ?_ ?_
   | refine LeO.bind ?_ (fun _ => ?_)
  ·intro y0 y1 y2 y3 y4
   unfold snap_Load.j1
   repeat' first
   | (with_reducible exact ih0 _ _)
   | (with_reducible exact ih1 _ _ _ _ _)
   | (with_reducible exact code_Decode.mono _ _)
   | (with_reducible exact snap_read.mono _ _ _ _ _)
   | (with_reducible exact LeO.refl _)
   | (with_reducible exact LeO.none _)
   | (with_reducible refine LeO.ite ?_ ?_)
   | (with_reducible refine LeO.bind ?_ (fun _ => ?_))
   | exact ih0 _ _
   | exact ih1 _ _ _ _ _
   | exact code_Decode.mono _ _
   | exact snap_read.mono _ _ _ _ _
   | exact LeO.none _
   | refine LeO.ite ?_ ?_
   | refine LeO.bind ?_ (fun _ => ?_)
theorem snap_Load.mono : ∀ a0 k, LeO (snap_Load.f k a0) (snap_Load.f (k + 1) a0) := by
 intro a0 k
 obtain ⟨ih0, ih1⟩ := snap_Load.mono_l k
 unfold snap_Load.f
 repeat' first
   | (with_reducible exact ih0 _ _)
   | (with_reducible exact ih1 _ _ _ _ _)
   | (with_reducible exact code_Decode.mono _ _)
   | (with_reducible exact snap_read.mono _ _ _ _ _)
   | (with_reducible exact LeO.refl _)
   | (with_reducible exact LeO.none _)
   | (with_reducible refine LeO.ite ?_ ?_)
   | (with_reducible refine LeO.bind ?_ (fun _ => ?_))
   | exact ih0 _ _
   | exact ih1 _ _ _ _ _
   | exact code_Decode.mono _ _
   | exact snap_read.mono _ _ _ _ _
   | exact LeO.none _
   | refine LeO.ite ?_ ?_
   | refine LeO.bind ?_ (fun _ => ?_)
def snap_Load.T12 : Bool × List (List Nat × List Nat) := (true, [([], []), ([0], [0]), ([1], [1]), ([2], [2]), ([3], [3]), ([], []), ([5], [5]), ([6], [6]), ([7], [7]), ([8], [8]), ([], []), ([], []), ([11], [11]), ([12], [12]), ([13], [13]), ([], []), ([15], [15]), ([16], [16]), ([17], [17]), ([4, 9, 10, 14, 18], [4, 9, 10, 14, 18]), ([19, 0, 1, 2, 3, 4, 5, 6, 7, 8, 9, 10, 11, 12, 13, 14, 15, 16, 17, 18, 19], [19]), ([20, 0, 1, 2, 3, 4, 5, 6, 7, 8, 9, 10, 11, 12, 13, 14, 15, 16, 17, 18, 19, 20], [])])
def snap_Load.B12 : List Nat := [0, 1, 3, 7, 15, 0, 32, 96, 224, 480, 0, 0, 2048, 6144, 14336, 0, 32768, 98304, 229376, 524287, 1048575, 2097151]
theorem snap_Load.tab12 : rtab .any (opsOf Tryd.f14 12) = snap_Load.T12 := by kernel_rfl
theorem snap_Load.bits12 : waitsOk snap_Load.T12.2 snap_Load.B12 = true := by kernel_rfl
set_option maxHeartbeats 8000000 in
set_option maxRecDepth 100000 in
theorem snap_Load.calls (k : Nat) (A0 : Option Addr) (c0 : Nat) (l0 : List Int) (r1 : Int) (r2 : Int) (r3 : List Int) (r4 : Int) (r5 : Int) (r6 : ByteArray) (r7 : List (S26)) (r8 : Int) (r9 : Int) (r10 : ByteArray) (r11 : List (S26)) (r12 : Int) (w : World) (hr0 : Kd.C (Kd.int .u8) w A0 l0.length l0) (hc0 : l0.length ≤ c0) (hG : QuarterLaid w) (h : snap_Load.f k l0 = some (r1, r2, r3, r4, r5, r6, r7, r8, r9, r10, r11, r12)) :
  Calls Tryd.prog 14 #[.slice A0 l0.length c0] w fun e w' => ∃ v2_ v6_ v10_ : Value, e = .returned (.tuple #[.agg #[.int .u64 r1, .int .u64 r2, v2_, .int .i64 r4, .int .u64 r5, .string r6, v6_, .int .i64 r8, .int .u64 r9, .string r10, v10_], .int .i64 r12]) ∧ Kd.R (Kd.int .i64) 3 w' w.heap.size (fun k_ => (w.heap.size ≤ k_)) v2_ r3 ∧ Kd.V k26 26 w' w.heap.size (fun k_ => (w.heap.size ≤ k_) ∧ some k_ ≠ (v2_ : Value).ownBlock) v6_ r7 ∧ Kd.V k26 26 w' w.heap.size (fun k_ => (w.heap.size ≤ k_) ∧ some k_ ≠ (v2_ : Value).ownBlock) v10_ r11 ∧ Below w.heap.size w w' := by
 have hu28 := Tryd.underlying28
 have hu26 := Tryd.underlying26
 have HR0 := am hr0
 have HC0 := am hc0
 clear hr0 hc0
 have HG := am hG
 clear hG
 have HB := am (Below.refl w.heap.size w)
 have H : ((frame_First.f l0).bind fun bt167 => (if (bt167.1.length : Int) > 1048320 then (some (0, 0, ([] : List Int), 0, 0, (⟨#[]⟩ : ByteArray), ([] : List (S26)), 0, 0, (⟨#[]⟩ : ByteArray), ([] : List (S26)), 4)) else (if bt167.2.2 = 0 then (snap_Load.j0 k bt167.1 (bt167.2.1 != (l0.length : Int))) else (snap_Load.j0 k bt167.1 true)))) = some (r1, r2, r3, r4, r5, r6, r7, r8, r9, r10, r11, r12) := h
 clear h
 replace H := Option.bind_eq_some_iff.mp H
 obtain ⟨⟨t167, t168, t169⟩, A20, H⟩ := H
 try dsimp only at H
 have A2 := am A20
 clear A20
 by_cases c3 : (t167.length : Int) > 1048320
 ·rw [if_pos c3] at H
  have c3b0 : decide (1048320 < (t167.length : Int)) = true := decide_eq_true c3
  have c3b1 : decide (1048320 < t167.length) = true := decide_eq_true (by omega)
  clear c3
  simp only [Option.some.injEq, Prod.mk.injEq] at H
  obtain ⟨rfl, rfl, rfl, rfl, rfl, rfl, rfl, rfl, rfl, rfl, rfl, rfl⟩ := H
  go_enter Tryd.func14, Tryd.ntmps14
  go_wp2_with (first | ((with_reducible refine gate_dst (N := 2) rfl ?_); (try (refine gate_guard (by rfl) ?_; dsimp only)); refine box_event ?hg (N := 2) ?hd (cs := zS_) (t := 28) ?hr ?_; (case hd => rfl); (case hg => rfl); (case hr => first | (go_simp; done) | (go_simp; rfl)); intro gb166 hg w4 hbox hb; have BK166 := am (hbox); have GW166 := am ((by rw [hg]; exact (below_size pB) : w.heap.size ≤ gb166)); have GE166 := am ((by rw [hg]; exact (below_size pB) : w.heap.size ≤ gb166)); replace HB := am (below_step pB hb); clear hb hbox hg) | ((with_reducible refine gate_callee (f := 36) rfl ?_); refine goesL_ (some 12) rfl rfl Tryd.func36 (by kernel_rfl) rfl #[.slice A0 l0.length c0] rfl pM ?_; (with_reducible refine (frame_First.calls _ _ l0 t167 t168 t169 _ ?side1 ?side2 ?side3 A2.out).mono ?_); (case side1 => exact pC (Kd.C_below HR0.out HB.out)); (case side2 => exact HC0.out); (case side3 => exact pG); rintro e w5 ⟨v170, rfl, ho0, hb⟩; refine ⟨_, rfl, ?_⟩; have HO171 := am (Kd.R_lower (Kd.R_newM (M := fun k_ => (w.heap.size ≤ k_)) ho0 (below_size pB) (fun k_ h_ => h_)) (below_size pB)); replace BK166 := am (pkb BK166.out hb); replace HB := am (below_step pB hb); (try clear hb); (try clear hb2); (try clear hk); (try clear hi); (try clear ho0); obtain ⟨Ao6, co6, eo6⟩ := Kd.R_slice HO171.out; subst eo6; have q7 := cf11 BK166.out))
  refine bodyPost_ret (results_ct rfl _ _ gb166 28 #[.int .u64 0, .int .u64 0, .slice none 0 0, .int .i64 0, .int .u64 0, .string (⟨#[]⟩ : ByteArray), .slice none 0 0, .int .i64 0, .int .u64 0, .string (⟨#[]⟩ : ByteArray), .slice none 0 0] (0, 0) _ rfl (by (iterate 11 ((with_reducible repeat (first | refine blk_drewN ?_ _ | refine blk_drew ?_ | refine blk_alloc ?_ _)); refine blk_put (cs := zS_) ?_ _ _ rfl)); (with_reducible repeat (first | refine blk_drewN ?_ _ | refine blk_drew ?_ | refine blk_alloc ?_ _)); exact BK166.out) Tryd.underlying28 rfl (by kernel_rfl)) rfl ?_
  exact ⟨_, _, _, pE, pZ, pZ, pZ, pB⟩
 ·rw [if_neg c3] at H
  have c3b0 : decide (1048320 < (t167.length : Int)) = false := decide_eq_false c3
  have c3b1 : decide (1048320 < t167.length) = false := decide_eq_false (by omega)
  clear c3
  have HC8 := am H
  clear H
  go_enter Tryd.func14, Tryd.ntmps14
  go_upto_region 4 with (first | ((with_reducible refine gate_dst (N := 2) rfl ?_); (try (refine gate_guard (by rfl) ?_; dsimp only)); refine box_event ?hg (N := 2) ?hd (cs := zS_) (t := 28) ?hr ?_; (case hd => rfl); (case hg => rfl); (case hr => first | (go_simp; done) | (go_simp; rfl)); intro gb166 hg w9 hbox hb; have BK166 := am (hbox); have GW166 := am ((by rw [hg]; exact (below_size pB) : w.heap.size ≤ gb166)); have GE166 := am ((by rw [hg]; exact (below_size pB) : w.heap.size ≤ gb166)); replace HB := am (below_step pB hb); clear hb hbox hg) | ((with_reducible refine gate_callee (f := 36) rfl ?_); refine goesL_ (some 12) rfl rfl Tryd.func36 (by kernel_rfl) rfl #[.slice A0 l0.length c0] rfl pM ?_; (with_reducible refine (frame_First.calls _ _ l0 t167 t168 t169 _ ?side1 ?side2 ?side3 A2.out).mono ?_); (case side1 => exact pC (Kd.C_below HR0.out HB.out)); (case side2 => exact HC0.out); (case side3 => exact pG); rintro e w10 ⟨v170, rfl, ho0, hb⟩; refine ⟨_, rfl, ?_⟩; have HO171 := am (Kd.R_lower (Kd.R_newM (M := fun k_ => (w.heap.size ≤ k_)) ho0 (below_size pB) (fun k_ h_ => h_)) (below_size pB)); replace BK166 := am (pkb BK166.out hb); replace HB := am (below_step pB hb); (try clear hb); (try clear hb2); (try clear hk); (try clear hi); (try clear ho0); obtain ⟨Ao11, co11, eo11⟩ := Kd.R_slice HO171.out; subst eo11))
  (try simp only [Act.put, List.setIfInBounds_toArray, List.set_cons_zero, List.set_cons_succ])
  go_cut [27] (fun v27 wc => ∃ (kq : Nat) (x27_7 : Bool), v27 = .bool x27_7 ∧ Aside0 (snap_Load.j0 kq t167 x27_7 = some (r1, r2, r3, r4, r5, r6, r7, r8, r9, r10, r11, r12)) ∧ Aside0 (kq ≤ k) ∧ Aside0 (Kd.R (Kd.int .u8) 5 wc w.heap.size (fun k_ => (w.heap.size ≤ k_)) (.slice Ao11 t167.length co11) t167) ∧ Aside0 (wc.heap[gb166]? = some (.cells #[.int .u64 0, .int .u64 0, (.slice none 0 0), .int .i64 0, .int .u64 0, .string (⟨#[]⟩ : ByteArray), (.slice none 0 0), .int .i64 0, .int .u64 0, .string (⟨#[]⟩ : ByteArray), (.slice none 0 0)] 28 (0, 0))) ∧ Aside0 (Below w.heap.size w wc))
  case first =>
   have H := HC8.out
   clear HC8
   by_cases c12 : t169 = 0
   ·rw [if_pos c12] at H
    have c12b0 : (t169 == 0) = true := beq_iff_eq.mpr c12
    have c12b1 : (t169 != 0) = false := bne_eq_false_iff_eq.mpr c12
    clear c12
    (first | rw [c12b0] | (simp only [i64_w, i32_w]; rw [c12b0]) | rw [c12b1] | (simp only [i64_w, i32_w]; rw [c12b1]) | skip)
    have H' := am H
    clear H
    go_wp2
    go_meet
    case rel => exact ⟨_, ((t168 != (l0.length : Int))), (by first | rfl | (simp; done) | (simp [*]; done)), H', ⟨by first | omega | exact Nat.le_refl _⟩, ⟨by (with_reducible repeat (first | apply Kd.R_alloc | apply Kd.R_drewN | apply Kd.R_drew)); exact Kd.R_mono HO171.out (fun _ hk => hk.1)⟩, ⟨by (with_reducible repeat (first | refine blk_drewN ?_ _ | refine blk_drew ?_ | refine blk_alloc ?_ _)); exact BK166.out⟩, ⟨pB⟩⟩
   ·rw [if_neg c12] at H
    have c12b0 : (t169 == 0) = false := beq_eq_false_iff_ne.mpr c12
    have c12b1 : (t169 != 0) = true := bne_iff_ne.mpr c12
    (first | rw [c12b0] | (simp only [i64_w, i32_w]; rw [c12b0]) | rw [c12b1] | (simp only [i64_w, i32_w]; rw [c12b1]) | skip)
    have H' := am H
    clear H
    go_wp2
    go_meet
    case rel => exact ⟨_, (true), (by first | rfl | (simp; done) | (simp [*]; done)), H', ⟨by first | omega | exact Nat.le_refl _⟩, ⟨by (with_reducible repeat (first | apply Kd.R_alloc | apply Kd.R_drewN | apply Kd.R_drew)); exact Kd.R_mono HO171.out (fun _ hk => hk.1)⟩, ⟨by (with_reducible repeat (first | refine blk_drewN ?_ _ | refine blk_drew ?_ | refine blk_alloc ?_ _)); exact BK166.out⟩, ⟨pB⟩⟩
  case rest =>
   clear HC8
   try clear c1
   try clear p2
   try clear c3
   try clear c3b0
   try clear c3b1
   try clear c12
   try clear c12b0
   try clear c12b1
   try clear q7
   obtain ⟨kq, x27_7, rfl, HA, HJ7, HO_4, BK166, HB⟩ := hcut
   cases kq with
   | zero => exact absurd HA.out (by simp [snap_Load.j0])
   | succ kj7 =>
    have H := HA.out
    clear HA
    simp only [snap_Load.j0] at H
    by_cases c13 : x27_7 = true
    ·subst c13
     rw [if_pos rfl] at H
     simp only [Option.some.injEq, Prod.mk.injEq] at H
     obtain ⟨rfl, rfl, rfl, rfl, rfl, rfl, rfl, rfl, rfl, rfl, rfl, rfl⟩ := H
     have q14 := cf11 BK166.out
     go_wp2
     refine bodyPost_ret (results_ct rfl _ _ gb166 28 #[.int .u64 0, .int .u64 0, .slice none 0 0, .int .i64 0, .int .u64 0, .string (⟨#[]⟩ : ByteArray), .slice none 0 0, .int .i64 0, .int .u64 0, .string (⟨#[]⟩ : ByteArray), .slice none 0 0] (0, 0) _ rfl (by (iterate 11 ((with_reducible repeat (first | refine blk_drewN ?_ _ | refine blk_drew ?_ | refine blk_alloc ?_ _)); refine blk_put (cs := zS_) ?_ _ _ rfl)); (with_reducible repeat (first | refine blk_drewN ?_ _ | refine blk_drew ?_ | refine blk_alloc ?_ _)); exact BK166.out) Tryd.underlying28 rfl (by kernel_rfl)) rfl ?_
     exact ⟨_, _, _, pE, pZ, pZ, pZ, pB⟩
    ·replace c13 := Bool.eq_false_iff.mpr c13
     subst c13
     rw [if_neg (show ¬ (false = true) by decide)] at H
     replace H := Option.bind_eq_some_iff.mp H
     obtain ⟨⟨t172, t173, t174, t175, t178⟩, A150, H⟩ := H
     try dsimp only at H
     have A15 := am A150
     clear A150
     have HC16 := am H
     clear H
     go_upto_region 7 with (first | ((with_reducible refine gate_callee (f := 37) rfl ?_); refine goesL_ (some 31) rfl rfl Tryd.func37 (by kernel_rfl) rfl #[.slice Ao11 t167.length co11] rfl pM ?_; (with_reducible refine (code_Decode.calls kj7 _ _ t167 t172 t173 t174 t175 t178 _ ?side1 ?side2 A15.out).mono ?_); (case side1 => repeat (first | exact (Kd.R_reads' HO_4.out).2.2 | (with_reducible refine Kd.C_alloc ?_ _) | (with_reducible refine Kd.C_drewN ?_ _) | (with_reducible refine Kd.C_drew ?_))); (case side2 => exact (Kd.R_reads' HO_4.out).2.1); rintro e w17 ⟨v176, rfl, ho0, hb⟩; refine ⟨_, rfl, ?_⟩; replace HO_4 := am (Kd.R_below (pR HO_4.out) hb); have HO177 := am (Kd.R_lower (Kd.R_newM (M := fun k_ => (w.heap.size ≤ k_)) ho0 (below_size pB) (fun k_ h_ => h_)) (below_size pB)); replace BK166 := am (pkb BK166.out hb); replace HB := am (below_step pB hb); (try clear hb); (try clear hb2); (try clear hk); (try clear hi); (try clear ho0)) | ((with_reducible refine gate_dst (N := 7) rfl ?_); (try (refine gate_guard (by rfl) ?_; dsimp only)); refine box_event ?hg (N := 7) ?hd (cs := #[.int .i64 0, .int .u64 0, .string (⟨#[]⟩ : ByteArray), .slice none 0 0]) (t := 26) ?hr ?_; (case hd => rfl); (case hg => rfl); (case hr => first | (go_simp; done) | (go_simp; rfl)); intro gb179 hg w18 hbox hb; replace HO_4 := am (Kd.R_below (pR HO_4.out) hb); replace HO177 := am (Kd.R_below (Kd.R_elderB (pR HO177.out) gb179 (Nat.le_of_eq hg.symm)) hb); have BK179 := am (hbox); have GW179 := am ((by rw [hg]; exact (below_size pB) : w.heap.size ≤ gb179)); have GE179 := am ((by rw [hg]; exact (below_size pB) : w.heap.size ≤ gb179)); have NB166_179 := am ((by rw [hg]; exact Nat.ne_of_lt (pkl BK166.out) : gb166 ≠ gb179)); have NB179_166 := am ((by rw [hg]; exact Nat.ne_of_gt (pkl BK166.out) : gb179 ≠ gb166)); replace BK166 := am (pkb BK166.out hb); replace HB := am (below_step pB hb); clear hb hbox hg; have hnb19 := NB179_166.out; have hnc19 := NB166_179.out; have q20 := cf4 BK179.out; obtain ⟨Ao21, co21, eo21⟩ := Kd.R_slice HO177.out; subst eo21))
     (try simp only [Act.put, List.setIfInBounds_toArray, List.set_cons_zero, List.set_cons_succ])
     go_cut [62] (fun v62 wc => ∃ (kq : Nat) (x62_15 : Bool), v62 = .bool x62_15 ∧ Aside0 (snap_Load.j1 kq x62_15 t172 t173 t174 t175 = some (r1, r2, r3, r4, r5, r6, r7, r8, r9, r10, r11, r12)) ∧ Aside0 (kq ≤ kj7) ∧ Aside0 (Kd.R k26 26 wc w.heap.size (fun k_ => (w.heap.size ≤ k_) ∧ k_ ≠ gb179) (.slice Ao21 t175.length co21) t175) ∧ Aside0 (wc.heap[gb166]? = some (.cells #[.int .u64 0, .int .u64 0, (.slice none 0 0), .int .i64 0, .int .u64 0, .string (⟨#[]⟩ : ByteArray), (.slice none 0 0), .int .i64 0, .int .u64 0, .string (⟨#[]⟩ : ByteArray), (.slice none 0 0)] 28 (0, 0))) ∧ Aside0 (wc.heap[gb179]? = some (.cells #[.int .i64 t172, .int .u64 t173, .string t174, (.slice Ao21 t175.length co21)] 26 (0, 0))) ∧ Aside0 (Below w.heap.size w wc))
     case first =>
      have H := HC16.out
      clear HC16
      by_cases c22 : t178 = 0
      ·rw [if_pos c22] at H
       have c22b0 : (t178 == 0) = true := beq_iff_eq.mpr c22
       have c22b1 : (t178 != 0) = false := bne_eq_false_iff_eq.mpr c22
       clear c22
       (first | rw [c22b0] | (simp only [i64_w, i32_w]; rw [c22b0]) | rw [c22b1] | (simp only [i64_w, i32_w]; rw [c22b1]) | skip)
       by_cases c23 : t172 = 2
       ·rw [if_pos c23] at H
        have c23b0 : (t172 == 2) = true := beq_iff_eq.mpr c23
        have c23b1 : (t172 != 2) = false := bne_eq_false_iff_eq.mpr c23
        clear c23
        by_cases c24 : (t175.length : Int) = 5
        ·rw [if_pos c24] at H
         have c24b0 : ((t175.length : Int) == 5) = true := beq_iff_eq.mpr c24
         have c24b1 : ((t175.length : Int) != 5) = false := bne_eq_false_iff_eq.mpr c24
         clear c24
         by_cases c25 : 0 < (t175.length : Int)
         ·rw [if_pos c25] at H
          have c25b0 : decide (0 < (t175.length : Int)) = true := decide_eq_true c25
          have c25b1 : decide (0 < t175.length) = true := decide_eq_true (by omega)
          clear c25
          by_cases c26 : ((rd_T26 t175 0).f0) = 0
          ·rw [if_pos c26] at H
           have c26b0 : (((rd_T26 t175 0).f0) == 0) = true := beq_iff_eq.mpr c26
           have c26b1 : (((rd_T26 t175 0).f0) != 0) = false := bne_eq_false_iff_eq.mpr c26
           clear c26
           by_cases c27 : 1 < (t175.length : Int)
           ·rw [if_pos c27] at H
            have c27b0 : decide (1 < (t175.length : Int)) = true := decide_eq_true c27
            have c27b1 : decide (1 < t175.length) = true := decide_eq_true (by omega)
            clear c27
            have H' := am H
            clear H
            have hnb28 := NB179_166.out
            have hnc28 := NB166_179.out
            have q29 := cf4 BK179.out
            have p180 : 0 ≤ (0 : Int) := (by omega)
            have q180 : 0 < (t175.length : Int) := pD
            obtain ⟨ad180, A180_3, c180_3, e180, hx180_0, hx180_1, hx180_2, hx180_3, hl180_3, hi180_3⟩ := at_T26 (Kd.R_reads' HO177.out).2.2 0 p180 q180
            cases e180
            have qi180 : (0 < t175.length) = True := eq_true (by omega)
            (try rw [show ((0 : Int)).toNat = 0 from rfl] at hx180_0)
            (try rw [show 0 * 4 = 0 from rfl] at hx180_0)
            (try rw [Addr.add_zero'] at hx180_0)
            (try rw [show ((0 : Int)).toNat = 0 from rfl] at hx180_1)
            (try rw [show 0 * 4 = 0 from rfl] at hx180_1)
            (try rw [Addr.add_zero'] at hx180_1)
            (try rw [show ((0 : Int)).toNat = 0 from rfl] at hx180_2)
            (try rw [show 0 * 4 = 0 from rfl] at hx180_2)
            (try rw [Addr.add_zero'] at hx180_2)
            (try rw [show ((0 : Int)).toNat = 0 from rfl] at hx180_3)
            (try rw [show 0 * 4 = 0 from rfl] at hx180_3)
            (try rw [Addr.add_zero'] at hx180_3)
            have hn180_0 : ad180.block ≠ gb179 := Kd.own_blk (pX HO177.out BK179.out)
            have hn180_1 : ad180.block ≠ gb179 := Kd.own_blk (pX HO177.out BK179.out)
            have hn180_2 : ad180.block ≠ gb179 := Kd.own_blk (pX HO177.out BK179.out)
            have hn180_3 : ad180.block ≠ gb179 := Kd.own_blk (pX HO177.out BK179.out)
            have HR180_3 := am hi180_3
            have HC180_3 := am hl180_3
            clear hi180_3 hl180_3
            replace hx180_0 := (cell_far (p := ⟨gb179, 0, none⟩) (pW hn180_0) (.int .i64 t172)).trans hx180_0
            replace hx180_1 := (cell_far (p := ⟨gb179, 0, none⟩) (pW hn180_0) (.int .i64 t172)).trans hx180_1
            replace hx180_2 := (cell_far (p := ⟨gb179, 0, none⟩) (pW hn180_0) (.int .i64 t172)).trans hx180_2
            replace hx180_3 := (cell_far (p := ⟨gb179, 0, none⟩) (pW hn180_0) (.int .i64 t172)).trans hx180_3
            replace hx180_0 := (cell_far (p := ⟨gb179, 1, none⟩) (pW hn180_1) (.int .u64 t173)).trans hx180_0
            replace hx180_1 := (cell_far (p := ⟨gb179, 1, none⟩) (pW hn180_1) (.int .u64 t173)).trans hx180_1
            replace hx180_2 := (cell_far (p := ⟨gb179, 1, none⟩) (pW hn180_1) (.int .u64 t173)).trans hx180_2
            replace hx180_3 := (cell_far (p := ⟨gb179, 1, none⟩) (pW hn180_1) (.int .u64 t173)).trans hx180_3
            replace hx180_0 := (cell_far (p := ⟨gb179, 2, none⟩) (pW hn180_2) (.string t174)).trans hx180_0
            replace hx180_1 := (cell_far (p := ⟨gb179, 2, none⟩) (pW hn180_2) (.string t174)).trans hx180_1
            replace hx180_2 := (cell_far (p := ⟨gb179, 2, none⟩) (pW hn180_2) (.string t174)).trans hx180_2
            replace hx180_3 := (cell_far (p := ⟨gb179, 2, none⟩) (pW hn180_2) (.string t174)).trans hx180_3
            replace hx180_0 := (cell_far (p := ⟨gb179, 3, none⟩) (pW hn180_3) (.slice (some ad180) t175.length co21)).trans hx180_0
            replace hx180_1 := (cell_far (p := ⟨gb179, 3, none⟩) (pW hn180_3) (.slice (some ad180) t175.length co21)).trans hx180_1
            replace hx180_2 := (cell_far (p := ⟨gb179, 3, none⟩) (pW hn180_3) (.slice (some ad180) t175.length co21)).trans hx180_2
            replace hx180_3 := (cell_far (p := ⟨gb179, 3, none⟩) (pW hn180_3) (.slice (some ad180) t175.length co21)).trans hx180_3
            clear hn180_0 hn180_1 hn180_2 hn180_3
            replace p180 := eq_true p180
            replace q180 := eq_true q180
            have p181 : 0 ≤ (1 : Int) := (by omega)
            have q181 : 1 < (t175.length : Int) := pD
            obtain ⟨ad181, A181_3, c181_3, e181, hx181_0, hx181_1, hx181_2, hx181_3, hl181_3, hi181_3⟩ := at_T26 (Kd.R_reads' HO177.out).2.2 1 p181 q181
            obtain rfl : ad180 = ad181 := (by injection e181)
            (try simp only [show (1 : Int).toNat = 1 from rfl, Nat.reduceMul, Nat.reduceEqDiff, Go.Addr.add, ↓reduceIte] at hx181_0)
            (try simp only [show (1 : Int).toNat = 1 from rfl, Nat.reduceMul, Nat.reduceEqDiff, Go.Addr.add, ↓reduceIte] at hx181_1)
            (try simp only [show (1 : Int).toNat = 1 from rfl, Nat.reduceMul, Nat.reduceEqDiff, Go.Addr.add, ↓reduceIte] at hx181_2)
            (try simp only [show (1 : Int).toNat = 1 from rfl, Nat.reduceMul, Nat.reduceEqDiff, Go.Addr.add, ↓reduceIte] at hx181_3)
            have qi181 : (1 < t175.length) = True := eq_true (by omega)
            (try rw [show ((1 : Int)).toNat = 1 from rfl] at hx181_0)
            (try rw [show 1 * 4 = 4 from rfl] at hx181_0)
            (try rw [show ((1 : Int)).toNat = 1 from rfl] at hx181_1)
            (try rw [show 1 * 4 = 4 from rfl] at hx181_1)
            (try rw [show ((1 : Int)).toNat = 1 from rfl] at hx181_2)
            (try rw [show 1 * 4 = 4 from rfl] at hx181_2)
            (try rw [show ((1 : Int)).toNat = 1 from rfl] at hx181_3)
            (try rw [show 1 * 4 = 4 from rfl] at hx181_3)
            have hn181_0 : ad180.block ≠ gb179 := Kd.own_blk (pX HO177.out BK179.out)
            have hn181_1 : ad180.block ≠ gb179 := Kd.own_blk (pX HO177.out BK179.out)
            have hn181_2 : ad180.block ≠ gb179 := Kd.own_blk (pX HO177.out BK179.out)
            have hn181_3 : ad180.block ≠ gb179 := Kd.own_blk (pX HO177.out BK179.out)
            have HR181_3 := am hi181_3
            have HC181_3 := am hl181_3
            clear hi181_3 hl181_3
            replace hx181_0 := (cell_far (p := ⟨gb179, 0, none⟩) (pW hn181_0) (.int .i64 t172)).trans hx181_0
            replace hx181_1 := (cell_far (p := ⟨gb179, 0, none⟩) (pW hn181_0) (.int .i64 t172)).trans hx181_1
            replace hx181_2 := (cell_far (p := ⟨gb179, 0, none⟩) (pW hn181_0) (.int .i64 t172)).trans hx181_2
            replace hx181_3 := (cell_far (p := ⟨gb179, 0, none⟩) (pW hn181_0) (.int .i64 t172)).trans hx181_3
            replace hx181_0 := (cell_far (p := ⟨gb179, 1, none⟩) (pW hn181_1) (.int .u64 t173)).trans hx181_0
            replace hx181_1 := (cell_far (p := ⟨gb179, 1, none⟩) (pW hn181_1) (.int .u64 t173)).trans hx181_1
            replace hx181_2 := (cell_far (p := ⟨gb179, 1, none⟩) (pW hn181_1) (.int .u64 t173)).trans hx181_2
            replace hx181_3 := (cell_far (p := ⟨gb179, 1, none⟩) (pW hn181_1) (.int .u64 t173)).trans hx181_3
            replace hx181_0 := (cell_far (p := ⟨gb179, 2, none⟩) (pW hn181_2) (.string t174)).trans hx181_0
            replace hx181_1 := (cell_far (p := ⟨gb179, 2, none⟩) (pW hn181_2) (.string t174)).trans hx181_1
            replace hx181_2 := (cell_far (p := ⟨gb179, 2, none⟩) (pW hn181_2) (.string t174)).trans hx181_2
            replace hx181_3 := (cell_far (p := ⟨gb179, 2, none⟩) (pW hn181_2) (.string t174)).trans hx181_3
            replace hx181_0 := (cell_far (p := ⟨gb179, 3, none⟩) (pW hn181_3) (.slice (some ad180) t175.length co21)).trans hx181_0
            replace hx181_1 := (cell_far (p := ⟨gb179, 3, none⟩) (pW hn181_3) (.slice (some ad180) t175.length co21)).trans hx181_1
            replace hx181_2 := (cell_far (p := ⟨gb179, 3, none⟩) (pW hn181_3) (.slice (some ad180) t175.length co21)).trans hx181_2
            replace hx181_3 := (cell_far (p := ⟨gb179, 3, none⟩) (pW hn181_3) (.slice (some ad180) t175.length co21)).trans hx181_3
            clear hn181_0 hn181_1 hn181_2 hn181_3
            replace p181 := eq_true p181
            replace q181 := eq_true q181
            go_wp2
            go_meet
            case rel => exact ⟨_, ((((rd_T26 t175 1).f0) != 0)), (by first | rfl | (simp; done) | (simp [*]; done)), H', ⟨by have := HJ7.out; first | omega | exact Nat.le_refl _⟩, ⟨by (with_reducible repeat (first | apply Kd.R_alloc | apply Kd.R_drewN | apply Kd.R_drew)); exact Kd.R_mono (Kd.R_far (p := ⟨gb179, 3, none⟩) (Kd.R_far (p := ⟨gb179, 2, none⟩) (Kd.R_far (p := ⟨gb179, 1, none⟩) (Kd.R_far (p := ⟨gb179, 0, none⟩) (Kd.R_mono HO177.out (fun k_ hk => (⟨hk, hk.2⟩ : _ ∧ k_ ≠ gb179))) (fun _ hk => hk.2) (.int .i64 t172)) (fun _ hk => hk.2) (.int .u64 t173)) (fun _ hk => hk.2) (.string t174)) (fun _ hk => hk.2) (.slice (some ad180) t175.length co21)) (fun _ hk => ⟨hk.1.1.1, hk.1.2⟩)⟩, ⟨by (with_reducible repeat (first | refine blk_drewN ?_ _ | refine blk_drew ?_ | refine blk_alloc ?_ _)); refine blk_far ?_ NB166_179.out _; (with_reducible repeat (first | refine blk_drewN ?_ _ | refine blk_drew ?_ | refine blk_alloc ?_ _)); refine blk_far ?_ NB166_179.out _; (with_reducible repeat (first | refine blk_drewN ?_ _ | refine blk_drew ?_ | refine blk_alloc ?_ _)); refine blk_far ?_ NB166_179.out _; (with_reducible repeat (first | refine blk_drewN ?_ _ | refine blk_drew ?_ | refine blk_alloc ?_ _)); refine blk_far ?_ NB166_179.out _; (with_reducible repeat (first | refine blk_drewN ?_ _ | refine blk_drew ?_ | refine blk_alloc ?_ _)); exact BK166.out⟩, ⟨by (with_reducible repeat (first | refine blk_drewN ?_ _ | refine blk_drew ?_ | refine blk_alloc ?_ _)); refine blk_put (cs := #[.int .i64 t172, .int .u64 t173, .string t174, .slice none 0 0]) ?_ 3 _ rfl; (with_reducible repeat (first | refine blk_drewN ?_ _ | refine blk_drew ?_ | refine blk_alloc ?_ _)); refine blk_put (cs := #[.int .i64 t172, .int .u64 t173, .string (⟨#[]⟩ : ByteArray), .slice none 0 0]) ?_ 2 _ rfl; (with_reducible repeat (first | refine blk_drewN ?_ _ | refine blk_drew ?_ | refine blk_alloc ?_ _)); refine blk_put (cs := #[.int .i64 t172, .int .u64 0, .string (⟨#[]⟩ : ByteArray), .slice none 0 0]) ?_ 1 _ rfl; (with_reducible repeat (first | refine blk_drewN ?_ _ | refine blk_drew ?_ | refine blk_alloc ?_ _)); refine blk_put (cs := #[.int .i64 0, .int .u64 0, .string (⟨#[]⟩ : ByteArray), .slice none 0 0]) ?_ 0 _ rfl; (with_reducible repeat (first | refine blk_drewN ?_ _ | refine blk_drew ?_ | refine blk_alloc ?_ _)); exact BK179.out⟩, ⟨pB⟩⟩
           ·rw [if_neg c27] at H
            exact absurd H (by simp)
          ·rw [if_neg c26] at H
           have c26b0 : (((rd_T26 t175 0).f0) == 0) = false := beq_eq_false_iff_ne.mpr c26
           have c26b1 : (((rd_T26 t175 0).f0) != 0) = true := bne_iff_ne.mpr c26
           have H' := am H
           clear H
           have hnb30 := NB179_166.out
           have hnc30 := NB166_179.out
           have q31 := cf4 BK179.out
           have p180 : 0 ≤ (0 : Int) := (by omega)
           have q180 : 0 < (t175.length : Int) := pD
           obtain ⟨ad180, A180_3, c180_3, e180, hx180_0, hx180_1, hx180_2, hx180_3, hl180_3, hi180_3⟩ := at_T26 (Kd.R_reads' HO177.out).2.2 0 p180 q180
           cases e180
           have qi180 : (0 < t175.length) = True := eq_true (by omega)
           (try rw [show ((0 : Int)).toNat = 0 from rfl] at hx180_0)
           (try rw [show 0 * 4 = 0 from rfl] at hx180_0)
           (try rw [Addr.add_zero'] at hx180_0)
           (try rw [show ((0 : Int)).toNat = 0 from rfl] at hx180_1)
           (try rw [show 0 * 4 = 0 from rfl] at hx180_1)
           (try rw [Addr.add_zero'] at hx180_1)
           (try rw [show ((0 : Int)).toNat = 0 from rfl] at hx180_2)
           (try rw [show 0 * 4 = 0 from rfl] at hx180_2)
           (try rw [Addr.add_zero'] at hx180_2)
           (try rw [show ((0 : Int)).toNat = 0 from rfl] at hx180_3)
           (try rw [show 0 * 4 = 0 from rfl] at hx180_3)
           (try rw [Addr.add_zero'] at hx180_3)
           have hn180_0 : ad180.block ≠ gb179 := Kd.own_blk (pX HO177.out BK179.out)
           have hn180_1 : ad180.block ≠ gb179 := Kd.own_blk (pX HO177.out BK179.out)
           have hn180_2 : ad180.block ≠ gb179 := Kd.own_blk (pX HO177.out BK179.out)
           have hn180_3 : ad180.block ≠ gb179 := Kd.own_blk (pX HO177.out BK179.out)
           have HR180_3 := am hi180_3
           have HC180_3 := am hl180_3
           clear hi180_3 hl180_3
           replace hx180_0 := (cell_far (p := ⟨gb179, 0, none⟩) (pW hn180_0) (.int .i64 t172)).trans hx180_0
           replace hx180_1 := (cell_far (p := ⟨gb179, 0, none⟩) (pW hn180_0) (.int .i64 t172)).trans hx180_1
           replace hx180_2 := (cell_far (p := ⟨gb179, 0, none⟩) (pW hn180_0) (.int .i64 t172)).trans hx180_2
           replace hx180_3 := (cell_far (p := ⟨gb179, 0, none⟩) (pW hn180_0) (.int .i64 t172)).trans hx180_3
           replace hx180_0 := (cell_far (p := ⟨gb179, 1, none⟩) (pW hn180_1) (.int .u64 t173)).trans hx180_0
           replace hx180_1 := (cell_far (p := ⟨gb179, 1, none⟩) (pW hn180_1) (.int .u64 t173)).trans hx180_1
           replace hx180_2 := (cell_far (p := ⟨gb179, 1, none⟩) (pW hn180_1) (.int .u64 t173)).trans hx180_2
           replace hx180_3 := (cell_far (p := ⟨gb179, 1, none⟩) (pW hn180_1) (.int .u64 t173)).trans hx180_3
           replace hx180_0 := (cell_far (p := ⟨gb179, 2, none⟩) (pW hn180_2) (.string t174)).trans hx180_0
           replace hx180_1 := (cell_far (p := ⟨gb179, 2, none⟩) (pW hn180_2) (.string t174)).trans hx180_1
           replace hx180_2 := (cell_far (p := ⟨gb179, 2, none⟩) (pW hn180_2) (.string t174)).trans hx180_2
           replace hx180_3 := (cell_far (p := ⟨gb179, 2, none⟩) (pW hn180_2) (.string t174)).trans hx180_3
           replace hx180_0 := (cell_far (p := ⟨gb179, 3, none⟩) (pW hn180_3) (.slice (some ad180) t175.length co21)).trans hx180_0
           replace hx180_1 := (cell_far (p := ⟨gb179, 3, none⟩) (pW hn180_3) (.slice (some ad180) t175.length co21)).trans hx180_1
           replace hx180_2 := (cell_far (p := ⟨gb179, 3, none⟩) (pW hn180_3) (.slice (some ad180) t175.length co21)).trans hx180_2
           replace hx180_3 := (cell_far (p := ⟨gb179, 3, none⟩) (pW hn180_3) (.slice (some ad180) t175.length co21)).trans hx180_3
           clear hn180_0 hn180_1 hn180_2 hn180_3
           replace p180 := eq_true p180
           replace q180 := eq_true q180
           go_wp2
           go_meet
           case rel => exact ⟨_, (true), (by first | rfl | (simp; done) | (simp [*]; done)), H', ⟨by have := HJ7.out; first | omega | exact Nat.le_refl _⟩, ⟨by (with_reducible repeat (first | apply Kd.R_alloc | apply Kd.R_drewN | apply Kd.R_drew)); exact Kd.R_mono (Kd.R_far (p := ⟨gb179, 3, none⟩) (Kd.R_far (p := ⟨gb179, 2, none⟩) (Kd.R_far (p := ⟨gb179, 1, none⟩) (Kd.R_far (p := ⟨gb179, 0, none⟩) (Kd.R_mono HO177.out (fun k_ hk => (⟨hk, hk.2⟩ : _ ∧ k_ ≠ gb179))) (fun _ hk => hk.2) (.int .i64 t172)) (fun _ hk => hk.2) (.int .u64 t173)) (fun _ hk => hk.2) (.string t174)) (fun _ hk => hk.2) (.slice (some ad180) t175.length co21)) (fun _ hk => ⟨hk.1.1.1, hk.1.2⟩)⟩, ⟨by (with_reducible repeat (first | refine blk_drewN ?_ _ | refine blk_drew ?_ | refine blk_alloc ?_ _)); refine blk_far ?_ NB166_179.out _; (with_reducible repeat (first | refine blk_drewN ?_ _ | refine blk_drew ?_ | refine blk_alloc ?_ _)); refine blk_far ?_ NB166_179.out _; (with_reducible repeat (first | refine blk_drewN ?_ _ | refine blk_drew ?_ | refine blk_alloc ?_ _)); refine blk_far ?_ NB166_179.out _; (with_reducible repeat (first | refine blk_drewN ?_ _ | refine blk_drew ?_ | refine blk_alloc ?_ _)); refine blk_far ?_ NB166_179.out _; (with_reducible repeat (first | refine blk_drewN ?_ _ | refine blk_drew ?_ | refine blk_alloc ?_ _)); exact BK166.out⟩, ⟨by (with_reducible repeat (first | refine blk_drewN ?_ _ | refine blk_drew ?_ | refine blk_alloc ?_ _)); refine blk_put (cs := #[.int .i64 t172, .int .u64 t173, .string t174, .slice none 0 0]) ?_ 3 _ rfl; (with_reducible repeat (first | refine blk_drewN ?_ _ | refine blk_drew ?_ | refine blk_alloc ?_ _)); refine blk_put (cs := #[.int .i64 t172, .int .u64 t173, .string (⟨#[]⟩ : ByteArray), .slice none 0 0]) ?_ 2 _ rfl; (with_reducible repeat (first | refine blk_drewN ?_ _ | refine blk_drew ?_ | refine blk_alloc ?_ _)); refine blk_put (cs := #[.int .i64 t172, .int .u64 0, .string (⟨#[]⟩ : ByteArray), .slice none 0 0]) ?_ 1 _ rfl; (with_reducible repeat (first | refine blk_drewN ?_ _ | refine blk_drew ?_ | refine blk_alloc ?_ _)); refine blk_put (cs := #[.int .i64 0, .int .u64 0, .string (⟨#[]⟩ : ByteArray), .slice none 0 0]) ?_ 0 _ rfl; (with_reducible repeat (first | refine blk_drewN ?_ _ | refine blk_drew ?_ | refine blk_alloc ?_ _)); exact BK179.out⟩, ⟨pB⟩⟩
         ·rw [if_neg c25] at H
          exact absurd H (by simp)
        ·rw [if_neg c24] at H
         have c24b0 : ((t175.length : Int) == 5) = false := beq_eq_false_iff_ne.mpr c24
         have c24b1 : ((t175.length : Int) != 5) = true := bne_iff_ne.mpr c24
         have H' := am H
         clear H
         have hnb32 := NB179_166.out
         have hnc32 := NB166_179.out
         have q33 := cf4 BK179.out
         go_wp2
         go_meet
         case rel => exact ⟨_, (true), (by first | rfl | (simp; done) | (simp [*]; done)), H', ⟨by have := HJ7.out; first | omega | exact Nat.le_refl _⟩, ⟨by (with_reducible repeat (first | apply Kd.R_alloc | apply Kd.R_drewN | apply Kd.R_drew)); exact Kd.R_mono (Kd.R_far (p := ⟨gb179, 3, none⟩) (Kd.R_far (p := ⟨gb179, 2, none⟩) (Kd.R_far (p := ⟨gb179, 1, none⟩) (Kd.R_far (p := ⟨gb179, 0, none⟩) (Kd.R_mono HO177.out (fun k_ hk => (⟨hk, hk.2⟩ : _ ∧ k_ ≠ gb179))) (fun _ hk => hk.2) (.int .i64 t172)) (fun _ hk => hk.2) (.int .u64 t173)) (fun _ hk => hk.2) (.string t174)) (fun _ hk => hk.2) (.slice Ao21 t175.length co21)) (fun _ hk => ⟨hk.1.1.1, hk.1.2⟩)⟩, ⟨by (with_reducible repeat (first | refine blk_drewN ?_ _ | refine blk_drew ?_ | refine blk_alloc ?_ _)); refine blk_far ?_ NB166_179.out _; (with_reducible repeat (first | refine blk_drewN ?_ _ | refine blk_drew ?_ | refine blk_alloc ?_ _)); refine blk_far ?_ NB166_179.out _; (with_reducible repeat (first | refine blk_drewN ?_ _ | refine blk_drew ?_ | refine blk_alloc ?_ _)); refine blk_far ?_ NB166_179.out _; (with_reducible repeat (first | refine blk_drewN ?_ _ | refine blk_drew ?_ | refine blk_alloc ?_ _)); refine blk_far ?_ NB166_179.out _; (with_reducible repeat (first | refine blk_drewN ?_ _ | refine blk_drew ?_ | refine blk_alloc ?_ _)); exact BK166.out⟩, ⟨by (with_reducible repeat (first | refine blk_drewN ?_ _ | refine blk_drew ?_ | refine blk_alloc ?_ _)); refine blk_put (cs := #[.int .i64 t172, .int .u64 t173, .string t174, .slice none 0 0]) ?_ 3 _ rfl; (with_reducible repeat (first | refine blk_drewN ?_ _ | refine blk_drew ?_ | refine blk_alloc ?_ _)); refine blk_put (cs := #[.int .i64 t172, .int .u64 t173, .string (⟨#[]⟩ : ByteArray), .slice none 0 0]) ?_ 2 _ rfl; (with_reducible repeat (first | refine blk_drewN ?_ _ | refine blk_drew ?_ | refine blk_alloc ?_ _)); refine blk_put (cs := #[.int .i64 t172, .int .u64 0, .string (⟨#[]⟩ : ByteArray), .slice none 0 0]) ?_ 1 _ rfl; (with_reducible repeat (first | refine blk_drewN ?_ _ | refine blk_drew ?_ | refine blk_alloc ?_ _)); refine blk_put (cs := #[.int .i64 0, .int .u64 0, .string (⟨#[]⟩ : ByteArray), .slice none 0 0]) ?_ 0 _ rfl; (with_reducible repeat (first | refine blk_drewN ?_ _ | refine blk_drew ?_ | refine blk_alloc ?_ _)); exact BK179.out⟩, ⟨pB⟩⟩
       ·rw [if_neg c23] at H
        have c23b0 : (t172 == 2) = false := beq_eq_false_iff_ne.mpr c23
        have c23b1 : (t172 != 2) = true := bne_iff_ne.mpr c23
        have H' := am H
        clear H
        have hnb34 := NB179_166.out
        have hnc34 := NB166_179.out
        have q35 := cf4 BK179.out
        go_wp2
        go_meet
        case rel => exact ⟨_, (true), (by first | rfl | (simp; done) | (simp [*]; done)), H', ⟨by have := HJ7.out; first | omega | exact Nat.le_refl _⟩, ⟨by (with_reducible repeat (first | apply Kd.R_alloc | apply Kd.R_drewN | apply Kd.R_drew)); exact Kd.R_mono (Kd.R_far (p := ⟨gb179, 3, none⟩) (Kd.R_far (p := ⟨gb179, 2, none⟩) (Kd.R_far (p := ⟨gb179, 1, none⟩) (Kd.R_far (p := ⟨gb179, 0, none⟩) (Kd.R_mono HO177.out (fun k_ hk => (⟨hk, hk.2⟩ : _ ∧ k_ ≠ gb179))) (fun _ hk => hk.2) (.int .i64 t172)) (fun _ hk => hk.2) (.int .u64 t173)) (fun _ hk => hk.2) (.string t174)) (fun _ hk => hk.2) (.slice Ao21 t175.length co21)) (fun _ hk => ⟨hk.1.1.1, hk.1.2⟩)⟩, ⟨by (with_reducible repeat (first | refine blk_drewN ?_ _ | refine blk_drew ?_ | refine blk_alloc ?_ _)); refine blk_far ?_ NB166_179.out _; (with_reducible repeat (first | refine blk_drewN ?_ _ | refine blk_drew ?_ | refine blk_alloc ?_ _)); refine blk_far ?_ NB166_179.out _; (with_reducible repeat (first | refine blk_drewN ?_ _ | refine blk_drew ?_ | refine blk_alloc ?_ _)); refine blk_far ?_ NB166_179.out _; (with_reducible repeat (first | refine blk_drewN ?_ _ | refine blk_drew ?_ | refine blk_alloc ?_ _)); refine blk_far ?_ NB166_179.out _; (with_reducible repeat (first | refine blk_drewN ?_ _ | refine blk_drew ?_ | refine blk_alloc ?_ _)); exact BK166.out⟩, ⟨by (with_reducible repeat (first | refine blk_drewN ?_ _ | refine blk_drew ?_ | refine blk_alloc ?_ _)); refine blk_put (cs := #[.int .i64 t172, .int .u64 t173, .string t174, .slice none 0 0]) ?_ 3 _ rfl; (with_reducible repeat (first | refine blk_drewN ?_ _ | refine blk_drew ?_ | refine blk_alloc ?_ _)); refine blk_put (cs := #[.int .i64 t172, .int .u64 t173, .string (⟨#[]⟩ : ByteArray), .slice none 0 0]) ?_ 2 _ rfl; (with_reducible repeat (first | refine blk_drewN ?_ _ | refine blk_drew ?_ | refine blk_alloc ?_ _)); refine blk_put (cs := #[.int .i64 t172, .int .u64 0, .string (⟨#[]⟩ : ByteArray), .slice none 0 0]) ?_ 1 _ rfl; (with_reducible repeat (first | refine blk_drewN ?_ _ | refine blk_drew ?_ | refine blk_alloc ?_ _)); refine blk_put (cs := #[.int .i64 0, .int .u64 0, .string (⟨#[]⟩ : ByteArray), .slice none 0 0]) ?_ 0 _ rfl; (with_reducible repeat (first | refine blk_drewN ?_ _ | refine blk_drew ?_ | refine blk_alloc ?_ _)); exact BK179.out⟩, ⟨pB⟩⟩
      ·rw [if_neg c22] at H
       have c22b0 : (t178 == 0) = false := beq_eq_false_iff_ne.mpr c22
       have c22b1 : (t178 != 0) = true := bne_iff_ne.mpr c22
       (first | rw [c22b0] | (simp only [i64_w, i32_w]; rw [c22b0]) | rw [c22b1] | (simp only [i64_w, i32_w]; rw [c22b1]) | skip)
       have H' := am H
       clear H
       go_wp2
       go_meet
       case rel => exact ⟨_, (true), (by first | rfl | (simp; done) | (simp [*]; done)), H', ⟨by have := HJ7.out; first | omega | exact Nat.le_refl _⟩, ⟨by (with_reducible repeat (first | apply Kd.R_alloc | apply Kd.R_drewN | apply Kd.R_drew)); exact Kd.R_mono (Kd.R_far (p := ⟨gb179, 3, none⟩) (Kd.R_far (p := ⟨gb179, 2, none⟩) (Kd.R_far (p := ⟨gb179, 1, none⟩) (Kd.R_far (p := ⟨gb179, 0, none⟩) (Kd.R_mono HO177.out (fun k_ hk => (⟨hk, hk.2⟩ : _ ∧ k_ ≠ gb179))) (fun _ hk => hk.2) (.int .i64 t172)) (fun _ hk => hk.2) (.int .u64 t173)) (fun _ hk => hk.2) (.string t174)) (fun _ hk => hk.2) (.slice Ao21 t175.length co21)) (fun _ hk => ⟨hk.1.1.1, hk.1.2⟩)⟩, ⟨by (with_reducible repeat (first | refine blk_drewN ?_ _ | refine blk_drew ?_ | refine blk_alloc ?_ _)); refine blk_far ?_ NB166_179.out _; (with_reducible repeat (first | refine blk_drewN ?_ _ | refine blk_drew ?_ | refine blk_alloc ?_ _)); refine blk_far ?_ NB166_179.out _; (with_reducible repeat (first | refine blk_drewN ?_ _ | refine blk_drew ?_ | refine blk_alloc ?_ _)); refine blk_far ?_ NB166_179.out _; (with_reducible repeat (first | refine blk_drewN ?_ _ | refine blk_drew ?_ | refine blk_alloc ?_ _)); refine blk_far ?_ NB166_179.out _; (with_reducible repeat (first | refine blk_drewN ?_ _ | refine blk_drew ?_ | refine blk_alloc ?_ _)); exact BK166.out⟩, ⟨by (with_reducible repeat (first | refine blk_drewN ?_ _ | refine blk_drew ?_ | refine blk_alloc ?_ _)); refine blk_put (cs := #[.int .i64 t172, .int .u64 t173, .string t174, .slice none 0 0]) ?_ 3 _ rfl; (with_reducible repeat (first | refine blk_drewN ?_ _ | refine blk_drew ?_ | refine blk_alloc ?_ _)); refine blk_put (cs := #[.int .i64 t172, .int .u64 t173, .string (⟨#[]⟩ : ByteArray), .slice none 0 0]) ?_ 2 _ rfl; (with_reducible repeat (first | refine blk_drewN ?_ _ | refine blk_drew ?_ | refine blk_alloc ?_ _)); refine blk_put (cs := #[.int .i64 t172, .int .u64 0, .string (⟨#[]⟩ : ByteArray), .slice none 0 0]) ?_ 1 _ rfl; (with_reducible repeat (first | refine blk_drewN ?_ _ | refine blk_drew ?_ | refine blk_alloc ?_ _)); refine blk_put (cs := #[.int .i64 0, .int .u64 0, .string (⟨#[]⟩ : ByteArray), .slice none 0 0]) ?_ 0 _ rfl; (with_reducible repeat (first | refine blk_drewN ?_ _ | refine blk_drew ?_ | refine blk_alloc ?_ _)); exact BK179.out⟩, ⟨pB⟩⟩
     case rest =>
      clear HC16
      try clear c1
      try clear p1
      try clear q1
      try clear hx1
      try clear qi1
      try clear c2
      try clear p2
      try clear c3
      try clear c3b0
      try clear c3b1
      try clear c12
      try clear c12b0
      try clear c12b1
      try clear c13
      try clear c14
      try clear c18
      try clear p18
      try clear q18
      try clear hx18
      try clear qi18
      try clear c19
      try clear c22
      try clear c22b0
      try clear c22b1
      try clear c23
      try clear c23b0
      try clear c23b1
      try clear c24
      try clear c24b0
      try clear c24b1
      try clear c25
      try clear c25b0
      try clear c25b1
      try clear c26
      try clear c26b0
      try clear c26b1
      try clear c27
      try clear c27b0
      try clear c27b1
      try clear c28
      try clear c30
      try clear c32
      try clear c34
      try clear q14 q20 q29 q31 q33 q35 q7
      try clear hx180_0
      try clear hx180_1
      try clear hx180_2
      try clear hx180_3
      try clear hx181_0
      try clear hx181_1
      try clear hx181_2
      try clear hx181_3
      try clear p180
      try clear p181
      try clear p2
      try clear q180
      try clear q181
      obtain ⟨kq, x62_15, rfl, HA, HJ15, HO_180003, BK166, BK179, HB⟩ := hcut
      cases kq with
      | zero => exact absurd HA.out (by simp [snap_Load.j1])
      | succ kj15 =>
       have H := HA.out
       clear HA
       simp only [snap_Load.j1] at H
       by_cases c36 : x62_15 = true
       ·subst c36
        rw [if_pos rfl] at H
        simp only [Option.some.injEq, Prod.mk.injEq] at H
        obtain ⟨rfl, rfl, rfl, rfl, rfl, rfl, rfl, rfl, rfl, rfl, rfl, rfl⟩ := H
        have hnb37 := NB166_179.out
        have hnc37 := NB179_166.out
        have q38 := cf11 BK166.out
        go_wp2
        refine bodyPost_ret (results_ct rfl _ _ gb166 28 #[.int .u64 0, .int .u64 0, .slice none 0 0, .int .i64 0, .int .u64 0, .string (⟨#[]⟩ : ByteArray), .slice none 0 0, .int .i64 0, .int .u64 0, .string (⟨#[]⟩ : ByteArray), .slice none 0 0] (0, 0) _ rfl (by (iterate 11 ((with_reducible repeat (first | refine blk_drewN ?_ _ | refine blk_drew ?_ | refine blk_alloc ?_ _)); refine blk_put (cs := zS_) ?_ _ _ rfl)); (with_reducible repeat (first | refine blk_drewN ?_ _ | refine blk_drew ?_ | refine blk_alloc ?_ _)); exact BK166.out) Tryd.underlying28 rfl (by kernel_rfl)) rfl ?_
        exact ⟨_, _, _, pE, pZ, pZ, pZ, pB⟩
       ·replace c36 := Bool.eq_false_iff.mpr c36
        subst c36
        rw [if_neg (show ¬ (false = true) by decide)] at H
        by_cases c39 : 2 < (t175.length : Int)
        ·rw [if_pos c39] at H
         have c39b0 : decide (2 < (t175.length : Int)) = true := decide_eq_true c39
         have c39b1 : decide (2 < t175.length) = true := decide_eq_true (by omega)
         clear c39
         replace H := Option.bind_eq_some_iff.mp H
         obtain ⟨⟨t183, t186⟩, A400, H⟩ := H
         try dsimp only at H
         have A40 := am A400
         clear A400
         by_cases c41 : t186 = true
         ·subst c41
          rw [if_pos rfl] at H
          by_cases c42 : 0 < (t175.length : Int)
          ·rw [if_pos c42] at H
           have c42b0 : decide (0 < (t175.length : Int)) = true := decide_eq_true c42
           have c42b1 : decide (0 < t175.length) = true := decide_eq_true (by omega)
           clear c42
           by_cases c43 : ((rd_T26 t175 0).f1) > 4611686018427387904
           ·rw [if_pos c43] at H
            have c43b0 : decide (4611686018427387904 < ((rd_T26 t175 0).f1)) = true := decide_eq_true c43
            clear c43
            simp only [Option.some.injEq, Prod.mk.injEq] at H
            obtain ⟨rfl, rfl, rfl, rfl, rfl, rfl, rfl, rfl, rfl, rfl, rfl, rfl⟩ := H
            have hnb44 := NB179_166.out
            have hnc44 := NB166_179.out
            have q45 := cf4 BK179.out
            have p182 : 0 ≤ (2 : Int) := (by omega)
            have q182 : 2 < (t175.length : Int) := pD
            obtain ⟨ad182, A182_3, c182_3, e182, hx182_0, hx182_1, hx182_2, hx182_3, hl182_3, hi182_3⟩ := at_T26 (Kd.R_reads' HO_180003.out).2.2 2 p182 q182
            cases e182
            obtain ⟨ce182, hce182, hMe182, hcc182⟩ := Kd.R_get HO_180003.out z26 2 p182 (by first | exact q182 | exact pD | (have e_ := (Kd.R_reads' HO_180003.out).1; omega))
            obtain ⟨ve182_3, rfl, ge182_3⟩ := k26_openM hMe182
            have hv182_3 := hcc182 3 _ rfl
            rw [add_field _ _ 3 (by omega)] at hv182_3
            replace hv182_3 := Option.some.inj (hv182_3.symm.trans hx182_3)
            rw [hv182_3] at ge182_3
            have HL182_3 := am (show Kd.R k26 26 _ _ _ _ ((rd_T26 t175 2).f3) from ge182_3)
            clear hv182_3 ge182_3 hcc182 hce182
            (try simp only [show (2 : Int).toNat = 2 from rfl, Nat.reduceMul, Nat.reduceEqDiff, Go.Addr.add, ↓reduceIte] at hx182_0)
            (try simp only [show (2 : Int).toNat = 2 from rfl, Nat.reduceMul, Nat.reduceEqDiff, Go.Addr.add, ↓reduceIte] at hx182_1)
            (try simp only [show (2 : Int).toNat = 2 from rfl, Nat.reduceMul, Nat.reduceEqDiff, Go.Addr.add, ↓reduceIte] at hx182_2)
            (try simp only [show (2 : Int).toNat = 2 from rfl, Nat.reduceMul, Nat.reduceEqDiff, Go.Addr.add, ↓reduceIte] at hx182_3)
            have qi182 : (2 < t175.length) = True := eq_true (by omega)
            (try rw [show ((2 : Int)).toNat = 2 from rfl] at hx182_0)
            (try rw [show 2 * 4 = 8 from rfl] at hx182_0)
            (try rw [show ((2 : Int)).toNat = 2 from rfl] at hx182_1)
            (try rw [show 2 * 4 = 8 from rfl] at hx182_1)
            (try rw [show ((2 : Int)).toNat = 2 from rfl] at hx182_2)
            (try rw [show 2 * 4 = 8 from rfl] at hx182_2)
            (try rw [show ((2 : Int)).toNat = 2 from rfl] at hx182_3)
            (try rw [show 2 * 4 = 8 from rfl] at hx182_3)
            have HR182_3 := am hi182_3
            have HC182_3 := am hl182_3
            clear hi182_3 hl182_3
            replace p182 := eq_true p182
            replace q182 := eq_true q182
            go_wp2_with (first | ((with_reducible refine gate_callee (f := 38) rfl ?_); refine goesL_ (some 69) rfl rfl Tryd.func38 (by kernel_rfl) rfl #[.agg #[.int .i64 ((rd_T26 t175 2).f0), .int .u64 ((rd_T26 t175 2).f1), .string ((rd_T26 t175 2).f2), .slice A182_3 ((rd_T26 t175 2).f3).length c182_3]] rfl pM ?_; (with_reducible refine (snap_read.calls kj15 ((rd_T26 t175 2).f0) ((rd_T26 t175 2).f1) ((rd_T26 t175 2).f2) _ _ ((rd_T26 t175 2).f3) t183 true _ ?side1 ?side2 A40.out).mono ?_); (case side1 => repeat (first | exact (by repeat (first | (with_reducible exact HR182_3.out) | (with_reducible refine Kd.C_alloc ?_ _) | (with_reducible refine Kd.C_drewN ?_ _) | (with_reducible refine Kd.C_drew ?_) | exact HR182_3.out)) | (with_reducible refine Kd.C_alloc ?_ _) | (with_reducible refine Kd.C_drewN ?_ _) | (with_reducible refine Kd.C_drew ?_))); (case side2 => exact HC182_3.out); rintro e w46 ⟨v184, rfl, ho0, hb⟩; refine ⟨_, rfl, ?_⟩; replace HO_180003 := am (Kd.R_below (pR HO_180003.out) hb); replace HL182_3 := am (Kd.R_below (pR HL182_3.out) hb); have HO185 := am (Kd.R_lower (Kd.R_newM (M := fun k_ => (w.heap.size ≤ k_)) ho0 (below_size pB) (fun k_ h_ => h_)) (below_size pB)); replace BK166 := am (pkb BK166.out hb); replace BK179 := am (pkb BK179.out hb); replace HR182_3 := am (Kd.C_below (by repeat (first | (with_reducible exact HR182_3.out) | (with_reducible refine Kd.C_alloc ?_ _) | (with_reducible refine Kd.C_drewN ?_ _) | (with_reducible refine Kd.C_drew ?_) | exact HR182_3.out)) hb); replace HB := am (below_step pB hb); (try clear hb); (try clear hb2); (try clear hk); (try clear hi); (try clear ho0); have q47 := cf4 BK179.out; have p187 : 0 ≤ (0 : Int) := (by omega); have q187 : 0 < (t175.length : Int) := pD; obtain ⟨ad187, A187_3, c187_3, e187, hx187_0, hx187_1, hx187_2, hx187_3, hl187_3, hi187_3⟩ := at_T26 (Kd.R_reads' HO_180003.out).2.2 0 p187 q187; obtain rfl : ad182 = ad187 := (by injection e187); obtain ⟨ce187, hce187, hMe187, hcc187⟩ := Kd.R_get HO_180003.out z26 0 p187 (by first | exact q187 | exact pD | (have e_ := (Kd.R_reads' HO_180003.out).1; omega)); obtain ⟨ve187_3, rfl, ge187_3⟩ := k26_openM hMe187; have hv187_3 := hcc187 3 _ rfl; rw [add_field _ _ 3 (by omega)] at hv187_3; replace hv187_3 := Option.some.inj (hv187_3.symm.trans hx187_3); rw [hv187_3] at ge187_3; have HL187_3 := am (show Kd.R k26 26 _ _ _ _ ((rd_T26 t175 0).f3) from ge187_3); clear hv187_3 ge187_3; clear hcc187 hce187; have qi187 : (0 < t175.length) = True := eq_true (by omega); (try rw [show ((0 : Int)).toNat = 0 from rfl] at hx187_0); (try rw [show 0 * 4 = 0 from rfl] at hx187_0); (try rw [Addr.add_zero'] at hx187_0); (try rw [show ((0 : Int)).toNat = 0 from rfl] at hx187_1); (try rw [show 0 * 4 = 0 from rfl] at hx187_1); (try rw [Addr.add_zero'] at hx187_1); (try rw [show ((0 : Int)).toNat = 0 from rfl] at hx187_2); (try rw [show 0 * 4 = 0 from rfl] at hx187_2); (try rw [Addr.add_zero'] at hx187_2); (try rw [show ((0 : Int)).toNat = 0 from rfl] at hx187_3); (try rw [show 0 * 4 = 0 from rfl] at hx187_3); (try rw [Addr.add_zero'] at hx187_3); have HR187_3 := am hi187_3; have HC187_3 := am hl187_3; clear hi187_3 hl187_3; replace p187 := eq_true p187; replace q187 := eq_true q187; have q48 := cf11 BK166.out))
            refine bodyPost_ret (results_ct rfl _ _ gb166 28 #[.int .u64 0, .int .u64 0, .slice none 0 0, .int .i64 0, .int .u64 0, .string (⟨#[]⟩ : ByteArray), .slice none 0 0, .int .i64 0, .int .u64 0, .string (⟨#[]⟩ : ByteArray), .slice none 0 0] (0, 0) _ rfl (by (iterate 11 ((with_reducible repeat (first | refine blk_drewN ?_ _ | refine blk_drew ?_ | refine blk_alloc ?_ _)); refine blk_put (cs := zS_) ?_ _ _ rfl)); (with_reducible repeat (first | refine blk_drewN ?_ _ | refine blk_drew ?_ | refine blk_alloc ?_ _)); exact BK166.out) Tryd.underlying28 rfl (by kernel_rfl)) rfl ?_
            exact ⟨_, _, _, pE, pZ, pZ, pZ, pB⟩
           ·rw [if_neg c43] at H
            have c43b0 : decide (4611686018427387904 < ((rd_T26 t175 0).f1)) = false := decide_eq_false c43
            clear c43
            by_cases c49 : 1 < (t175.length : Int)
            ·rw [if_pos c49] at H
             have c49b0 : decide (1 < (t175.length : Int)) = true := decide_eq_true c49
             have c49b1 : decide (1 < t175.length) = true := decide_eq_true (by omega)
             clear c49
             by_cases c50 : 3 < (t175.length : Int)
             ·rw [if_pos c50] at H
              have c50b0 : decide (3 < (t175.length : Int)) = true := decide_eq_true c50
              have c50b1 : decide (3 < t175.length) = true := decide_eq_true (by omega)
              clear c50
              by_cases c51 : 4 < (t175.length : Int)
              ·rw [if_pos c51] at H
               have c51b0 : decide (4 < (t175.length : Int)) = true := decide_eq_true c51
               have c51b1 : decide (4 < t175.length) = true := decide_eq_true (by omega)
               clear c51
               simp only [Option.some.injEq, Prod.mk.injEq] at H
               obtain ⟨rfl, rfl, rfl, rfl, rfl, rfl, rfl, rfl, rfl, rfl, rfl, rfl⟩ := H
               have hnb52 := NB179_166.out
               have hnc52 := NB166_179.out
               have q53 := cf4 BK179.out
               have p182 : 0 ≤ (2 : Int) := (by omega)
               have q182 : 2 < (t175.length : Int) := pD
               obtain ⟨ad182, A182_3, c182_3, e182, hx182_0, hx182_1, hx182_2, hx182_3, hl182_3, hi182_3⟩ := at_T26 (Kd.R_reads' HO_180003.out).2.2 2 p182 q182
               cases e182
               obtain ⟨ce182, hce182, hMe182, hcc182⟩ := Kd.R_get HO_180003.out z26 2 p182 (by first | exact q182 | exact pD | (have e_ := (Kd.R_reads' HO_180003.out).1; omega))
               obtain ⟨ve182_3, rfl, ge182_3⟩ := k26_openM hMe182
               have hv182_3 := hcc182 3 _ rfl
               rw [add_field _ _ 3 (by omega)] at hv182_3
               replace hv182_3 := Option.some.inj (hv182_3.symm.trans hx182_3)
               rw [hv182_3] at ge182_3
               have HL182_3 := am (show Kd.R k26 26 _ _ _ _ ((rd_T26 t175 2).f3) from ge182_3)
               clear hv182_3 ge182_3 hcc182 hce182
               (try simp only [show (2 : Int).toNat = 2 from rfl, Nat.reduceMul, Nat.reduceEqDiff, Go.Addr.add, ↓reduceIte] at hx182_0)
               (try simp only [show (2 : Int).toNat = 2 from rfl, Nat.reduceMul, Nat.reduceEqDiff, Go.Addr.add, ↓reduceIte] at hx182_1)
               (try simp only [show (2 : Int).toNat = 2 from rfl, Nat.reduceMul, Nat.reduceEqDiff, Go.Addr.add, ↓reduceIte] at hx182_2)
               (try simp only [show (2 : Int).toNat = 2 from rfl, Nat.reduceMul, Nat.reduceEqDiff, Go.Addr.add, ↓reduceIte] at hx182_3)
               have qi182 : (2 < t175.length) = True := eq_true (by omega)
               (try rw [show ((2 : Int)).toNat = 2 from rfl] at hx182_0)
               (try rw [show 2 * 4 = 8 from rfl] at hx182_0)
               (try rw [show ((2 : Int)).toNat = 2 from rfl] at hx182_1)
               (try rw [show 2 * 4 = 8 from rfl] at hx182_1)
               (try rw [show ((2 : Int)).toNat = 2 from rfl] at hx182_2)
               (try rw [show 2 * 4 = 8 from rfl] at hx182_2)
               (try rw [show ((2 : Int)).toNat = 2 from rfl] at hx182_3)
               (try rw [show 2 * 4 = 8 from rfl] at hx182_3)
               have HR182_3 := am hi182_3
               have HC182_3 := am hl182_3
               clear hi182_3 hl182_3
               replace p182 := eq_true p182
               replace q182 := eq_true q182
               try go_wp2_with (first | ((with_reducible refine gate_callee (f := 38) rfl ?_); refine goesL_ (some 69) rfl rfl Tryd.func38 (by kernel_rfl) rfl #[.agg #[.int .i64 ((rd_T26 t175 2).f0), .int .u64 ((rd_T26 t175 2).f1), .string ((rd_T26 t175 2).f2), .slice A182_3 ((rd_T26 t175 2).f3).length c182_3]] rfl pM ?_; (with_reducible refine (snap_read.calls kj15 ((rd_T26 t175 2).f0) ((rd_T26 t175 2).f1) ((rd_T26 t175 2).f2) _ _ ((rd_T26 t175 2).f3) t183 true _ ?side1 ?side2 A40.out).mono ?_); (case side1 => repeat (first | exact (by repeat (first | (with_reducible exact HR182_3.out) | (with_reducible refine Kd.C_alloc ?_ _) | (with_reducible refine Kd.C_drewN ?_ _) | (with_reducible refine Kd.C_drew ?_) | exact HR182_3.out)) | (with_reducible refine Kd.C_alloc ?_ _) | (with_reducible refine Kd.C_drewN ?_ _) | (with_reducible refine Kd.C_drew ?_))); (case side2 => exact HC182_3.out); rintro e w54 ⟨v184, rfl, ho0, hb⟩; refine ⟨_, rfl, ?_⟩; replace HO_180003 := am (Kd.R_below (pR HO_180003.out) hb); replace HL182_3 := am (Kd.R_below (pR HL182_3.out) hb); have HO185 := am (Kd.R_lower (Kd.R_newM (M := fun k_ => (w.heap.size ≤ k_)) ho0 (below_size pB) (fun k_ h_ => h_)) (below_size pB)); replace BK166 := am (pkb BK166.out hb); replace BK179 := am (pkb BK179.out hb); replace HR182_3 := am (Kd.C_below (by repeat (first | (with_reducible exact HR182_3.out) | (with_reducible refine Kd.C_alloc ?_ _) | (with_reducible refine Kd.C_drewN ?_ _) | (with_reducible refine Kd.C_drew ?_) | exact HR182_3.out)) hb); replace HB := am (below_step pB hb); (try clear hb); (try clear hb2); (try clear hk); (try clear hi); (try clear ho0); have q55 := cf4 BK179.out; have p187 : 0 ≤ (0 : Int) := (by omega); have q187 : 0 < (t175.length : Int) := pD; obtain ⟨ad187, A187_3, c187_3, e187, hx187_0, hx187_1, hx187_2, hx187_3, hl187_3, hi187_3⟩ := at_T26 (Kd.R_reads' HO_180003.out).2.2 0 p187 q187; obtain rfl : ad182 = ad187 := (by injection e187); obtain ⟨ce187, hce187, hMe187, hcc187⟩ := Kd.R_get HO_180003.out z26 0 p187 (by first | exact q187 | exact pD | (have e_ := (Kd.R_reads' HO_180003.out).1; omega)); obtain ⟨ve187_3, rfl, ge187_3⟩ := k26_openM hMe187; have hv187_3 := hcc187 3 _ rfl; rw [add_field _ _ 3 (by omega)] at hv187_3; replace hv187_3 := Option.some.inj (hv187_3.symm.trans hx187_3); rw [hv187_3] at ge187_3; have HL187_3 := am (show Kd.R k26 26 _ _ _ _ ((rd_T26 t175 0).f3) from ge187_3); clear hv187_3 ge187_3; clear hcc187 hce187; have qi187 : (0 < t175.length) = True := eq_true (by omega); (try rw [show ((0 : Int)).toNat = 0 from rfl] at hx187_0); (try rw [show 0 * 4 = 0 from rfl] at hx187_0); (try rw [Addr.add_zero'] at hx187_0); (try rw [show ((0 : Int)).toNat = 0 from rfl] at hx187_1); (try rw [show 0 * 4 = 0 from rfl] at hx187_1); (try rw [Addr.add_zero'] at hx187_1); (try rw [show ((0 : Int)).toNat = 0 from rfl] at hx187_2); (try rw [show 0 * 4 = 0 from rfl] at hx187_2); (try rw [Addr.add_zero'] at hx187_2); (try rw [show ((0 : Int)).toNat = 0 from rfl] at hx187_3); (try rw [show 0 * 4 = 0 from rfl] at hx187_3); (try rw [Addr.add_zero'] at hx187_3); have HR187_3 := am hi187_3; have HC187_3 := am hl187_3; clear hi187_3 hl187_3; replace p187 := eq_true p187; replace q187 := eq_true q187))
               replace HO_180003 := am (Kd.R_drew HO_180003.out)
               replace HL182_3 := am (Kd.R_drew HL182_3.out)
               replace HO185 := am (Kd.R_drew HO185.out)
               replace HL187_3 := am (Kd.R_drew HL187_3.out)
               replace BK166 := am (blk_drew BK166.out)
               replace BK179 := am (blk_drew BK179.out)
               replace HR182_3 := am (Kd.C_drew HR182_3.out)
               replace HR187_3 := am (Kd.C_drew HR187_3.out)
               replace HB := am (below_drew1 HB.out)
               have p188 : 0 ≤ (0 : Int) := (by omega)
               have q188 : 0 < (t175.length : Int) := pD
               obtain ⟨ad188, A188_3, c188_3, e188, hx188_0, hx188_1, hx188_2, hx188_3, hl188_3, hi188_3⟩ := at_T26 (Kd.R_reads' HO_180003.out).2.2 0 p188 q188
               obtain rfl : ad182 = ad188 := (by injection e188)
               obtain ⟨ce188, hce188, hMe188, hcc188⟩ := Kd.R_get HO_180003.out z26 0 p188 (by first | exact q188 | exact pD | (have e_ := (Kd.R_reads' HO_180003.out).1; omega))
               obtain ⟨ve188_3, rfl, ge188_3⟩ := k26_openM hMe188
               have hv188_3 := hcc188 3 _ rfl
               rw [add_field _ _ 3 (by omega)] at hv188_3
               replace hv188_3 := Option.some.inj (hv188_3.symm.trans hx188_3)
               rw [hv188_3] at ge188_3
               have HL188_3 := am (show Kd.R k26 26 _ _ _ _ ((rd_T26 t175 0).f3) from ge188_3)
               clear hv188_3 ge188_3 hcc188 hce188
               have qi188 : (0 < t175.length) = True := eq_true (by omega)
               (try rw [show ((0 : Int)).toNat = 0 from rfl] at hx188_0)
               (try rw [show 0 * 4 = 0 from rfl] at hx188_0)
               (try rw [Addr.add_zero'] at hx188_0)
               (try rw [show ((0 : Int)).toNat = 0 from rfl] at hx188_1)
               (try rw [show 0 * 4 = 0 from rfl] at hx188_1)
               (try rw [Addr.add_zero'] at hx188_1)
               (try rw [show ((0 : Int)).toNat = 0 from rfl] at hx188_2)
               (try rw [show 0 * 4 = 0 from rfl] at hx188_2)
               (try rw [Addr.add_zero'] at hx188_2)
               (try rw [show ((0 : Int)).toNat = 0 from rfl] at hx188_3)
               (try rw [show 0 * 4 = 0 from rfl] at hx188_3)
               (try rw [Addr.add_zero'] at hx188_3)
               have HR188_3 := am hi188_3
               have HC188_3 := am hl188_3
               clear hi188_3 hl188_3
               replace p188 := eq_true p188
               replace q188 := eq_true q188
               have p189 : 0 ≤ (1 : Int) := (by omega)
               have q189 : 1 < (t175.length : Int) := pD
               obtain ⟨ad189, A189_3, c189_3, e189, hx189_0, hx189_1, hx189_2, hx189_3, hl189_3, hi189_3⟩ := at_T26 (Kd.R_reads' HO_180003.out).2.2 1 p189 q189
               obtain rfl : ad182 = ad189 := (by injection e189)
               obtain ⟨ce189, hce189, hMe189, hcc189⟩ := Kd.R_get HO_180003.out z26 1 p189 (by first | exact q189 | exact pD | (have e_ := (Kd.R_reads' HO_180003.out).1; omega))
               obtain ⟨ve189_3, rfl, ge189_3⟩ := k26_openM hMe189
               have hv189_3 := hcc189 3 _ rfl
               rw [add_field _ _ 3 (by omega)] at hv189_3
               replace hv189_3 := Option.some.inj (hv189_3.symm.trans hx189_3)
               rw [hv189_3] at ge189_3
               have HL189_3 := am (show Kd.R k26 26 _ _ _ _ ((rd_T26 t175 1).f3) from ge189_3)
               clear hv189_3 ge189_3 hcc189 hce189
               (try simp only [show (1 : Int).toNat = 1 from rfl, Nat.reduceMul, Nat.reduceEqDiff, Go.Addr.add, ↓reduceIte] at hx189_0)
               (try simp only [show (1 : Int).toNat = 1 from rfl, Nat.reduceMul, Nat.reduceEqDiff, Go.Addr.add, ↓reduceIte] at hx189_1)
               (try simp only [show (1 : Int).toNat = 1 from rfl, Nat.reduceMul, Nat.reduceEqDiff, Go.Addr.add, ↓reduceIte] at hx189_2)
               (try simp only [show (1 : Int).toNat = 1 from rfl, Nat.reduceMul, Nat.reduceEqDiff, Go.Addr.add, ↓reduceIte] at hx189_3)
               have qi189 : (1 < t175.length) = True := eq_true (by omega)
               (try rw [show ((1 : Int)).toNat = 1 from rfl] at hx189_0)
               (try rw [show 1 * 4 = 4 from rfl] at hx189_0)
               (try rw [show ((1 : Int)).toNat = 1 from rfl] at hx189_1)
               (try rw [show 1 * 4 = 4 from rfl] at hx189_1)
               (try rw [show ((1 : Int)).toNat = 1 from rfl] at hx189_2)
               (try rw [show 1 * 4 = 4 from rfl] at hx189_2)
               (try rw [show ((1 : Int)).toNat = 1 from rfl] at hx189_3)
               (try rw [show 1 * 4 = 4 from rfl] at hx189_3)
               have HR189_3 := am hi189_3
               have HC189_3 := am hl189_3
               clear hi189_3 hl189_3
               replace p189 := eq_true p189
               replace q189 := eq_true q189
               have p190 : 0 ≤ (3 : Int) := (by omega)
               have q190 : 3 < (t175.length : Int) := pD
               obtain ⟨ad190, A190_3, c190_3, e190, hx190_0, hx190_1, hx190_2, hx190_3, hl190_3, hi190_3⟩ := at_T26 (Kd.R_reads' HO_180003.out).2.2 3 p190 q190
               obtain rfl : ad182 = ad190 := (by injection e190)
               obtain ⟨ce190, hce190, hMe190, hcc190⟩ := Kd.R_get HO_180003.out z26 3 p190 (by first | exact q190 | exact pD | (have e_ := (Kd.R_reads' HO_180003.out).1; omega))
               obtain ⟨ve190_3, rfl, ge190_3⟩ := k26_openM hMe190
               have hv190_3 := hcc190 3 _ rfl
               rw [add_field _ _ 3 (by omega)] at hv190_3
               replace hv190_3 := Option.some.inj (hv190_3.symm.trans hx190_3)
               rw [hv190_3] at ge190_3
               have HL190_3 := am (show Kd.R k26 26 _ _ _ _ ((rd_T26 t175 3).f3) from ge190_3)
               clear hv190_3 ge190_3 hcc190 hce190
               (try simp only [show (3 : Int).toNat = 3 from rfl, Nat.reduceMul, Nat.reduceEqDiff, Go.Addr.add, ↓reduceIte] at hx190_0)
               (try simp only [show (3 : Int).toNat = 3 from rfl, Nat.reduceMul, Nat.reduceEqDiff, Go.Addr.add, ↓reduceIte] at hx190_1)
               (try simp only [show (3 : Int).toNat = 3 from rfl, Nat.reduceMul, Nat.reduceEqDiff, Go.Addr.add, ↓reduceIte] at hx190_2)
               (try simp only [show (3 : Int).toNat = 3 from rfl, Nat.reduceMul, Nat.reduceEqDiff, Go.Addr.add, ↓reduceIte] at hx190_3)
               have qi190 : (3 < t175.length) = True := eq_true (by omega)
               (try rw [show ((3 : Int)).toNat = 3 from rfl] at hx190_0)
               (try rw [show 3 * 4 = 12 from rfl] at hx190_0)
               (try rw [show ((3 : Int)).toNat = 3 from rfl] at hx190_1)
               (try rw [show 3 * 4 = 12 from rfl] at hx190_1)
               (try rw [show ((3 : Int)).toNat = 3 from rfl] at hx190_2)
               (try rw [show 3 * 4 = 12 from rfl] at hx190_2)
               (try rw [show ((3 : Int)).toNat = 3 from rfl] at hx190_3)
               (try rw [show 3 * 4 = 12 from rfl] at hx190_3)
               have HR190_3 := am hi190_3
               have HC190_3 := am hl190_3
               clear hi190_3 hl190_3
               replace p190 := eq_true p190
               replace q190 := eq_true q190
               have p191 : 0 ≤ (4 : Int) := (by omega)
               have q191 : 4 < (t175.length : Int) := pD
               obtain ⟨ad191, A191_3, c191_3, e191, hx191_0, hx191_1, hx191_2, hx191_3, hl191_3, hi191_3⟩ := at_T26 (Kd.R_reads' HO_180003.out).2.2 4 p191 q191
               obtain rfl : ad182 = ad191 := (by injection e191)
               obtain ⟨ce191, hce191, hMe191, hcc191⟩ := Kd.R_get HO_180003.out z26 4 p191 (by first | exact q191 | exact pD | (have e_ := (Kd.R_reads' HO_180003.out).1; omega))
               obtain ⟨ve191_3, rfl, ge191_3⟩ := k26_openM hMe191
               have hv191_3 := hcc191 3 _ rfl
               rw [add_field _ _ 3 (by omega)] at hv191_3
               replace hv191_3 := Option.some.inj (hv191_3.symm.trans hx191_3)
               rw [hv191_3] at ge191_3
               have HL191_3 := am (show Kd.R k26 26 _ _ _ _ ((rd_T26 t175 4).f3) from ge191_3)
               clear hv191_3 ge191_3 hcc191 hce191
               (try simp only [show (4 : Int).toNat = 4 from rfl, Nat.reduceMul, Nat.reduceEqDiff, Go.Addr.add, ↓reduceIte] at hx191_0)
               (try simp only [show (4 : Int).toNat = 4 from rfl, Nat.reduceMul, Nat.reduceEqDiff, Go.Addr.add, ↓reduceIte] at hx191_1)
               (try simp only [show (4 : Int).toNat = 4 from rfl, Nat.reduceMul, Nat.reduceEqDiff, Go.Addr.add, ↓reduceIte] at hx191_2)
               (try simp only [show (4 : Int).toNat = 4 from rfl, Nat.reduceMul, Nat.reduceEqDiff, Go.Addr.add, ↓reduceIte] at hx191_3)
               have qi191 : (4 < t175.length) = True := eq_true (by omega)
               (try rw [show ((4 : Int)).toNat = 4 from rfl] at hx191_0)
               (try rw [show 4 * 4 = 16 from rfl] at hx191_0)
               (try rw [show ((4 : Int)).toNat = 4 from rfl] at hx191_1)
               (try rw [show 4 * 4 = 16 from rfl] at hx191_1)
               (try rw [show ((4 : Int)).toNat = 4 from rfl] at hx191_2)
               (try rw [show 4 * 4 = 16 from rfl] at hx191_2)
               (try rw [show ((4 : Int)).toNat = 4 from rfl] at hx191_3)
               (try rw [show 4 * 4 = 16 from rfl] at hx191_3)
               have HR191_3 := am hi191_3
               have HC191_3 := am hl191_3
               clear hi191_3 hl191_3
               replace p191 := eq_true p191
               replace q191 := eq_true q191
               obtain ⟨Ao57, co57, eo57⟩ := Kd.R_slice HO185.out
               (first | subst eo57 | (injection eo57 with f1_ f2_ f3_; have f4_ := f1_.symm; have f5_ := f3_.symm; clear f1_ f2_ f3_; subst f4_; subst f5_))
               refine start_ (n := 22) (S := fun w' => w'.cell? ⟨gb179, 0, none⟩ = some (.int .i64 t172) ∧ w'.cell? ⟨gb179, 1, none⟩ = some (.int .u64 t173) ∧ w'.cell? ⟨gb179, 2, none⟩ = some (.string t174) ∧ w'.cell? ⟨gb179, 3, none⟩ = some (.slice (some ad182) t175.length co21) ∧ w'.cell? ad182 = some (.int .i64 ((rd_T26 t175 0).f0)) ∧ w'.cell? ⟨ad182.block, ad182.off + 1, none⟩ = some (.int .u64 ((rd_T26 t175 0).f1)) ∧ w'.cell? ⟨ad182.block, ad182.off + 2, none⟩ = some (.string ((rd_T26 t175 0).f2)) ∧ w'.cell? ⟨ad182.block, ad182.off + 3, none⟩ = some (.slice A188_3 ((rd_T26 t175 0).f3).length c188_3) ∧ w'.cell? ⟨ad182.block, ad182.off + 4, none⟩ = some (.int .i64 ((rd_T26 t175 1).f0)) ∧ w'.cell? ⟨ad182.block, ad182.off + 4 + 1, none⟩ = some (.int .u64 ((rd_T26 t175 1).f1)) ∧ w'.cell? ⟨ad182.block, ad182.off + 4 + 2, none⟩ = some (.string ((rd_T26 t175 1).f2)) ∧ w'.cell? ⟨ad182.block, ad182.off + 4 + 3, none⟩ = some (.slice A189_3 ((rd_T26 t175 1).f3).length c189_3) ∧ w'.cell? ⟨ad182.block, ad182.off + 12, none⟩ = some (.int .i64 ((rd_T26 t175 3).f0)) ∧ w'.cell? ⟨ad182.block, ad182.off + 12 + 1, none⟩ = some (.int .u64 ((rd_T26 t175 3).f1)) ∧ w'.cell? ⟨ad182.block, ad182.off + 12 + 2, none⟩ = some (.string ((rd_T26 t175 3).f2)) ∧ w'.cell? ⟨ad182.block, ad182.off + 12 + 3, none⟩ = some (.slice A190_3 ((rd_T26 t175 3).f3).length c190_3) ∧ w'.cell? ⟨ad182.block, ad182.off + 16, none⟩ = some (.int .i64 ((rd_T26 t175 4).f0)) ∧ w'.cell? ⟨ad182.block, ad182.off + 16 + 1, none⟩ = some (.int .u64 ((rd_T26 t175 4).f1)) ∧ w'.cell? ⟨ad182.block, ad182.off + 16 + 2, none⟩ = some (.string ((rd_T26 t175 4).f2)) ∧ w'.cell? ⟨ad182.block, ad182.off + 16 + 3, none⟩ = some (.slice A191_3 ((rd_T26 t175 4).f3).length c191_3)) (ds := []) (bm 22 0) (by kernel_rfl) rfl rfl ⟨cz0 BK179.out, cz1 BK179.out, cz2 BK179.out, cz3 BK179.out, hx188_0, hx188_1, hx188_2, hx188_3, hx189_0, hx189_1, hx189_2, hx189_3, hx190_0, hx190_1, hx190_2, hx190_3, hx191_0, hx191_1, hx191_2, hx191_3⟩ (fun hHeld => ?_); refine with_tabW snap_Load.tab12 snap_Load.bits12 (fun HT_ HW_ => ?_)
               generalize w54.drew = w56 at HO_180003 HL182_3 HO185 HL187_3 BK166 BK179 HR182_3 HR187_3 HB HL188_3 HL189_3 HL190_3 HL191_3 HR188_3 HR189_3 HR190_3 HR191_3 hx188_0 hx188_1 hx188_2 hx188_3 hx189_0 hx189_1 hx189_2 hx189_3 hx190_0 hx190_1 hx190_2 hx190_3 hx191_0 hx191_1 hx191_2 hx191_3 hHeld ⊢
               refine pure_ (i := 0) (N := some 83) (v := ?_) (a' := ?_) (bm 22 1) rfl rfl (any_of HT_.out (by kernel_rfl)) (fun _ _ _ h => h) (Or.inl ⟨by kernel_rfl, ?_⟩) ?_ ?_
               rotate_left
               ·intro w'
                go_simp
                with_reducible rfl
               rotate_left
               ·exact pA
               refine pure_ (i := 5) (N := some 88) (v := ?_) (a' := ?_) (bm 22 33) rfl rfl (any_of HT_.out (by kernel_rfl)) (fun _ _ _ h => h) (Or.inl ⟨by kernel_rfl, ?_⟩) ?_ ?_
               rotate_left
               ·intro w'
                go_simp
                with_reducible rfl
               rotate_left
               ·exact pA
               refine pure_ (i := 10) (N := some 93) (v := ?_) (a' := ?_) (bm 22 1057) rfl rfl (any_of HT_.out (by kernel_rfl)) (fun _ _ _ h => h) (Or.inl ⟨by kernel_rfl, ?_⟩) ?_ ?_
               rotate_left
               ·intro w'
                go_simp
                with_reducible rfl
               rotate_left
               ·exact pA
               refine pure_ (i := 11) (N := some 94) (v := ?_) (a' := ?_) (bm 22 3105) rfl rfl (any_of HT_.out (by kernel_rfl)) (fun _ _ _ h => h) (Or.inl ⟨by kernel_rfl, ?_⟩) ?_ ?_
               rotate_left
               ·intro w'
                go_simp
                with_reducible rfl
               rotate_left
               ·exact pA
               refine pure_ (i := 15) (N := some 98) (v := ?_) (a' := ?_) (bm 22 35873) rfl rfl (any_of HT_.out (by kernel_rfl)) (fun _ _ _ h => h) (Or.inl ⟨by kernel_rfl, ?_⟩) ?_ ?_
               rotate_left
               ·intro w'
                go_simp
                with_reducible rfl
               rotate_left
               ·exact pA
               refine take_ (i := 1) (N := some 84) (v := ?_) (a' := ?_) (bm 22 35875) rfl rfl (take_ofW HT_.out HW_.out (by kernel_rfl)) (fun _ _ _ h => h) (Or.inl ⟨by kernel_rfl, ?_⟩) hHeld ?_ ?_
               rotate_left
               ·rintro w' ⟨s0, s1, s2, s3, s4, s5, s6, s7, s8, s9, s10, s11, s12, s13, s14, s15, s16, s17, s18, s19⟩
                go_simp
                with_reducible rfl
               rotate_left
               ·exact pA
               refine pure_ (i := 2) (N := some 85) (v := ?_) (a' := ?_) (bm 22 35879) rfl rfl (any_of HT_.out (by kernel_rfl)) (fun _ _ _ h => h) (Or.inl ⟨by kernel_rfl, ?_⟩) ?_ ?_
               rotate_left
               ·intro w'
                go_simp
                with_reducible rfl
               rotate_left
               ·exact pA
               refine pure_ (i := 3) (N := some 86) (v := ?_) (a' := ?_) (bm 22 35887) rfl rfl (any_of HT_.out (by kernel_rfl)) (fun _ _ _ h => h) (Or.inl ⟨by kernel_rfl, ?_⟩) ?_ ?_
               rotate_left
               ·intro w'
                go_simp
                with_reducible rfl
               rotate_left
               ·exact pA
               refine take_ (i := 4) (N := some 87) (v := ?_) (a' := ?_) (bm 22 35903) rfl rfl (take_ofW HT_.out HW_.out (by kernel_rfl)) (fun _ _ _ h => h) (Or.inl ⟨by kernel_rfl, ?_⟩) hHeld ?_ ?_
               rotate_left
               ·rintro w' ⟨s0, s1, s2, s3, s4, s5, s6, s7, s8, s9, s10, s11, s12, s13, s14, s15, s16, s17, s18, s19⟩
                go_simp
                with_reducible rfl
               rotate_left
               ·exact pA
               refine take_ (i := 6) (N := some 89) (v := ?_) (a' := ?_) (bm 22 35967) rfl rfl (take_ofW HT_.out HW_.out (by kernel_rfl)) (fun _ _ _ h => h) (Or.inl ⟨by kernel_rfl, ?_⟩) hHeld ?_ ?_
               rotate_left
               ·rintro w' ⟨s0, s1, s2, s3, s4, s5, s6, s7, s8, s9, s10, s11, s12, s13, s14, s15, s16, s17, s18, s19⟩
                go_simp
                with_reducible rfl
               rotate_left
               ·exact pA
               refine pure_ (i := 7) (N := some 90) (v := ?_) (a' := ?_) (bm 22 36095) rfl rfl (any_of HT_.out (by kernel_rfl)) (fun _ _ _ h => h) (Or.inl ⟨by kernel_rfl, ?_⟩) ?_ ?_
               rotate_left
               ·intro w'
                go_simp
                with_reducible rfl
               rotate_left
               ·exact pA
               refine pure_ (i := 8) (N := some 91) (v := ?_) (a' := ?_) (bm 22 36351) rfl rfl (any_of HT_.out (by kernel_rfl)) (fun _ _ _ h => h) (Or.inl ⟨by kernel_rfl, ?_⟩) ?_ ?_
               rotate_left
               ·intro w'
                go_simp
                with_reducible rfl
               rotate_left
               ·exact pA
               refine take_ (i := 9) (N := some 92) (v := ?_) (a' := ?_) (bm 22 36863) rfl rfl (take_ofW HT_.out HW_.out (by kernel_rfl)) (fun _ _ _ h => h) (Or.inl ⟨by kernel_rfl, ?_⟩) hHeld ?_ ?_
               rotate_left
               ·rintro w' ⟨s0, s1, s2, s3, s4, s5, s6, s7, s8, s9, s10, s11, s12, s13, s14, s15, s16, s17, s18, s19⟩
                go_simp
                with_reducible rfl
               rotate_left
               ·exact pA
               refine take_ (i := 12) (N := some 95) (v := ?_) (a' := ?_) (bm 22 40959) rfl rfl (take_ofW HT_.out HW_.out (by kernel_rfl)) (fun _ _ _ h => h) (Or.inl ⟨by kernel_rfl, ?_⟩) hHeld ?_ ?_
               rotate_left
               ·rintro w' ⟨s0, s1, s2, s3, s4, s5, s6, s7, s8, s9, s10, s11, s12, s13, s14, s15, s16, s17, s18, s19⟩
                go_simp
                with_reducible rfl
               rotate_left
               ·exact pA
               refine pure_ (i := 13) (N := some 96) (v := ?_) (a' := ?_) (bm 22 49151) rfl rfl (any_of HT_.out (by kernel_rfl)) (fun _ _ _ h => h) (Or.inl ⟨by kernel_rfl, ?_⟩) ?_ ?_
               rotate_left
               ·intro w'
                go_simp
                with_reducible rfl
               rotate_left
               ·exact pA
               refine take_ (i := 14) (N := some 97) (v := ?_) (a' := ?_) (bm 22 65535) rfl rfl (take_ofW HT_.out HW_.out (by kernel_rfl)) (fun _ _ _ h => h) (Or.inl ⟨by kernel_rfl, ?_⟩) hHeld ?_ ?_
               rotate_left
               ·rintro w' ⟨s0, s1, s2, s3, s4, s5, s6, s7, s8, s9, s10, s11, s12, s13, s14, s15, s16, s17, s18, s19⟩
                go_simp
                with_reducible rfl
               rotate_left
               ·exact pA
               refine take_ (i := 16) (N := some 99) (v := ?_) (a' := ?_) (bm 22 131071) rfl rfl (take_ofW HT_.out HW_.out (by kernel_rfl)) (fun _ _ _ h => h) (Or.inl ⟨by kernel_rfl, ?_⟩) hHeld ?_ ?_
               rotate_left
               ·rintro w' ⟨s0, s1, s2, s3, s4, s5, s6, s7, s8, s9, s10, s11, s12, s13, s14, s15, s16, s17, s18, s19⟩
                go_simp
                with_reducible rfl
               rotate_left
               ·exact pA
               refine pure_ (i := 17) (N := some 100) (v := ?_) (a' := ?_) (bm 22 262143) rfl rfl (any_of HT_.out (by kernel_rfl)) (fun _ _ _ h => h) (Or.inl ⟨by kernel_rfl, ?_⟩) ?_ ?_
               rotate_left
               ·intro w'
                go_simp
                with_reducible rfl
               rotate_left
               ·exact pA
               refine take_ (i := 18) (N := some 101) (v := ?_) (a' := ?_) (bm 22 524287) rfl rfl (take_ofW HT_.out HW_.out (by kernel_rfl)) (fun _ _ _ h => h) (Or.inl ⟨by kernel_rfl, ?_⟩) hHeld ?_ ?_
               rotate_left
               ·rintro w' ⟨s0, s1, s2, s3, s4, s5, s6, s7, s8, s9, s10, s11, s12, s13, s14, s15, s16, s17, s18, s19⟩
                go_simp
                with_reducible rfl
               rotate_left
               ·exact pA
               refine pure_ (i := 19) (N := some 102) (v := ?_) (a' := ?_) (bm 22 1048575) rfl rfl (any_of HT_.out (by kernel_rfl)) (fun _ _ _ h => h) (Or.inl ⟨by kernel_rfl, ?_⟩) ?_ ?_
               rotate_left
               ·intro w'
                go_simp
                with_reducible rfl
               rotate_left
               ·exact pA
               refine one_ (i := 20) (N := none) (bm 22 2097151) rfl rfl (one_of HT_.out (by kernel_rfl)) (by decide) (fun K hK => ?_)
               have hs58 : w56.cell? ⟨gb166, 0, none⟩ = some (.int .u64 0) := cz0 BK166.out
               have hfs58 := blk_frozen BK166.out 0
               have hns58_1 := NB179_166.out
               have hms58_1 := NB166_179.out
               have hs59 : w56.cell? ⟨gb166, 1, none⟩ = some (.int .u64 0) := cz1 BK166.out
               have hfs59 := blk_frozen BK166.out 1
               have hns59_1 := NB179_166.out
               have hms59_1 := NB166_179.out
               have hs60 : w56.cell? ⟨gb166, 2, none⟩ = some (.slice none 0 0) := cz2 BK166.out
               have hfs60 := blk_frozen BK166.out 2
               have hns60_1 := NB179_166.out
               have hms60_1 := NB166_179.out
               have hs61 : w56.cell? ⟨gb166, 3, none⟩ = some (.int .i64 0) := cz3 BK166.out
               have hfs61 := blk_frozen BK166.out 3
               have hns61_1 := NB179_166.out
               have hms61_1 := NB166_179.out
               have hs62 : w56.cell? ⟨gb166, 4, none⟩ = some (.int .u64 0) := cz4 BK166.out
               have hfs62 := blk_frozen BK166.out 4
               have hns62_1 := NB179_166.out
               have hms62_1 := NB166_179.out
               have hs63 : w56.cell? ⟨gb166, 5, none⟩ = some (.string (⟨#[]⟩ : ByteArray)) := cz5 BK166.out
               have hfs63 := blk_frozen BK166.out 5
               have hns63_1 := NB179_166.out
               have hms63_1 := NB166_179.out
               have hs64 : w56.cell? ⟨gb166, 6, none⟩ = some (.slice none 0 0) := cz6 BK166.out
               have hfs64 := blk_frozen BK166.out 6
               have hns64_1 := NB179_166.out
               have hms64_1 := NB166_179.out
               have hs65 : w56.cell? ⟨gb166, 7, none⟩ = some (.int .i64 0) := cz7 BK166.out
               have hfs65 := blk_frozen BK166.out 7
               have hns65_1 := NB179_166.out
               have hms65_1 := NB166_179.out
               have hs66 : w56.cell? ⟨gb166, 8, none⟩ = some (.int .u64 0) := cz8 BK166.out
               have hfs66 := blk_frozen BK166.out 8
               have hns66_1 := NB179_166.out
               have hms66_1 := NB166_179.out
               have hs67 : w56.cell? ⟨gb166, 9, none⟩ = some (.string (⟨#[]⟩ : ByteArray)) := cz9 BK166.out
               have hfs67 := blk_frozen BK166.out 9
               have hns67_1 := NB179_166.out
               have hms67_1 := NB166_179.out
               have hs68 : w56.cell? ⟨gb166, 10, none⟩ = some (.slice none 0 0) := cz10 BK166.out
               have hfs68 := blk_frozen BK166.out 10
               have hns68_1 := NB179_166.out
               have hms68_1 := NB166_179.out
               refine skip_ (w1 := ?_) ?hw rfl ?_ ?_; (case hw => kernel_rfl)
               rotate_left
               ·go_simp
                rfl
               refine hK.out _ _ ⟨(by (repeat (with_reducible refine (cell_far (p := ⟨gb166, _, none⟩) NB179_166.out _).trans ?_)); exact hHeld.1), (by (repeat (with_reducible refine (cell_far (p := ⟨gb166, _, none⟩) NB179_166.out _).trans ?_)); exact hHeld.2.1), (by (repeat (with_reducible refine (cell_far (p := ⟨gb166, _, none⟩) NB179_166.out _).trans ?_)); exact hHeld.2.2.1), (by (repeat (with_reducible refine (cell_far (p := ⟨gb166, _, none⟩) NB179_166.out _).trans ?_)); exact hHeld.2.2.2.1), (by (repeat (with_reducible refine (cell_far (p := ⟨gb166, _, none⟩) (pW (Kd.own_blk (pX HO_180003.out BK166.out))) _).trans ?_)); exact hHeld.2.2.2.2.1), (by (repeat (with_reducible refine (cell_far (p := ⟨gb166, _, none⟩) (pW (Kd.own_blk (pX HO_180003.out BK166.out))) _).trans ?_)); exact hHeld.2.2.2.2.2.1), (by (repeat (with_reducible refine (cell_far (p := ⟨gb166, _, none⟩) (pW (Kd.own_blk (pX HO_180003.out BK166.out))) _).trans ?_)); exact hHeld.2.2.2.2.2.2.1), (by (repeat (with_reducible refine (cell_far (p := ⟨gb166, _, none⟩) (pW (Kd.own_blk (pX HO_180003.out BK166.out))) _).trans ?_)); exact hHeld.2.2.2.2.2.2.2.1), (by (repeat (with_reducible refine (cell_far (p := ⟨gb166, _, none⟩) (pW (Kd.own_blk (pX HO_180003.out BK166.out))) _).trans ?_)); exact hHeld.2.2.2.2.2.2.2.2.1), (by (repeat (with_reducible refine (cell_far (p := ⟨gb166, _, none⟩) (pW (Kd.own_blk (pX HO_180003.out BK166.out))) _).trans ?_)); exact hHeld.2.2.2.2.2.2.2.2.2.1), (by (repeat (with_reducible refine (cell_far (p := ⟨gb166, _, none⟩) (pW (Kd.own_blk (pX HO_180003.out BK166.out))) _).trans ?_)); exact hHeld.2.2.2.2.2.2.2.2.2.2.1), (by (repeat (with_reducible refine (cell_far (p := ⟨gb166, _, none⟩) (pW (Kd.own_blk (pX HO_180003.out BK166.out))) _).trans ?_)); exact hHeld.2.2.2.2.2.2.2.2.2.2.2.1), (by (repeat (with_reducible refine (cell_far (p := ⟨gb166, _, none⟩) (pW (Kd.own_blk (pX HO_180003.out BK166.out))) _).trans ?_)); exact hHeld.2.2.2.2.2.2.2.2.2.2.2.2.1), (by (repeat (with_reducible refine (cell_far (p := ⟨gb166, _, none⟩) (pW (Kd.own_blk (pX HO_180003.out BK166.out))) _).trans ?_)); exact hHeld.2.2.2.2.2.2.2.2.2.2.2.2.2.1), (by (repeat (with_reducible refine (cell_far (p := ⟨gb166, _, none⟩) (pW (Kd.own_blk (pX HO_180003.out BK166.out))) _).trans ?_)); exact hHeld.2.2.2.2.2.2.2.2.2.2.2.2.2.2.1), (by (repeat (with_reducible refine (cell_far (p := ⟨gb166, _, none⟩) (pW (Kd.own_blk (pX HO_180003.out BK166.out))) _).trans ?_)); exact hHeld.2.2.2.2.2.2.2.2.2.2.2.2.2.2.2.1), (by (repeat (with_reducible refine (cell_far (p := ⟨gb166, _, none⟩) (pW (Kd.own_blk (pX HO_180003.out BK166.out))) _).trans ?_)); exact hHeld.2.2.2.2.2.2.2.2.2.2.2.2.2.2.2.2.1), (by (repeat (with_reducible refine (cell_far (p := ⟨gb166, _, none⟩) (pW (Kd.own_blk (pX HO_180003.out BK166.out))) _).trans ?_)); exact hHeld.2.2.2.2.2.2.2.2.2.2.2.2.2.2.2.2.2.1), (by (repeat (with_reducible refine (cell_far (p := ⟨gb166, _, none⟩) (pW (Kd.own_blk (pX HO_180003.out BK166.out))) _).trans ?_)); exact hHeld.2.2.2.2.2.2.2.2.2.2.2.2.2.2.2.2.2.2.1), (by (repeat (with_reducible refine (cell_far (p := ⟨gb166, _, none⟩) (pW (Kd.own_blk (pX HO_180003.out BK166.out))) _).trans ?_)); exact hHeld.2.2.2.2.2.2.2.2.2.2.2.2.2.2.2.2.2.2.2)⟩ (fun hHeld => ?_)
               clear hK K
               refine pure_ (i := 21) (N := some 3) (v := ?_) (a' := ?_) (bm 22 4194303) rfl rfl (any_of HT_.out (by kernel_rfl)) (fun _ _ _ h => h) (Or.inl ⟨by kernel_rfl, ?_⟩) ?_ ?_
               rotate_left
               ·intro w'
                go_simp
                with_reducible rfl
               rotate_left
               ·exact pA
               refine done_ (done_of HT_.out (by kernel_rfl)) ?_
               try go_wp2
               refine bodyPost_ret (results_ct rfl _ _ gb166 28 #[.int .u64 ((rd_T26 t175 0).f1), .int .u64 ((rd_T26 t175 1).f1), .slice Ao57 t183.length co57, .int .i64 ((rd_T26 t175 3).f0), .int .u64 ((rd_T26 t175 3).f1), .string ((rd_T26 t175 3).f2), .slice A190_3 ((rd_T26 t175 3).f3).length c190_3, .int .i64 ((rd_T26 t175 4).f0), .int .u64 ((rd_T26 t175 4).f1), .string ((rd_T26 t175 4).f2), .slice A191_3 ((rd_T26 t175 4).f3).length c191_3] (0, 0) _ rfl (by (with_reducible repeat (first | refine blk_drewN ?_ _ | refine blk_drew ?_ | refine blk_alloc ?_ _)); refine blk_put (cs := #[.int .u64 ((rd_T26 t175 0).f1), .int .u64 ((rd_T26 t175 1).f1), .slice Ao57 t183.length co57, .int .i64 ((rd_T26 t175 3).f0), .int .u64 ((rd_T26 t175 3).f1), .string ((rd_T26 t175 3).f2), .slice A190_3 ((rd_T26 t175 3).f3).length c190_3, .int .i64 ((rd_T26 t175 4).f0), .int .u64 ((rd_T26 t175 4).f1), .string ((rd_T26 t175 4).f2), .slice none 0 0]) ?_ 10 _ rfl; (with_reducible repeat (first | refine blk_drewN ?_ _ | refine blk_drew ?_ | refine blk_alloc ?_ _)); refine blk_put (cs := #[.int .u64 ((rd_T26 t175 0).f1), .int .u64 ((rd_T26 t175 1).f1), .slice Ao57 t183.length co57, .int .i64 ((rd_T26 t175 3).f0), .int .u64 ((rd_T26 t175 3).f1), .string ((rd_T26 t175 3).f2), .slice A190_3 ((rd_T26 t175 3).f3).length c190_3, .int .i64 ((rd_T26 t175 4).f0), .int .u64 ((rd_T26 t175 4).f1), .string (⟨#[]⟩ : ByteArray), .slice none 0 0]) ?_ 9 _ rfl; (with_reducible repeat (first | refine blk_drewN ?_ _ | refine blk_drew ?_ | refine blk_alloc ?_ _)); refine blk_put (cs := #[.int .u64 ((rd_T26 t175 0).f1), .int .u64 ((rd_T26 t175 1).f1), .slice Ao57 t183.length co57, .int .i64 ((rd_T26 t175 3).f0), .int .u64 ((rd_T26 t175 3).f1), .string ((rd_T26 t175 3).f2), .slice A190_3 ((rd_T26 t175 3).f3).length c190_3, .int .i64 ((rd_T26 t175 4).f0), .int .u64 0, .string (⟨#[]⟩ : ByteArray), .slice none 0 0]) ?_ 8 _ rfl; (with_reducible repeat (first | refine blk_drewN ?_ _ | refine blk_drew ?_ | refine blk_alloc ?_ _)); refine blk_put (cs := #[.int .u64 ((rd_T26 t175 0).f1), .int .u64 ((rd_T26 t175 1).f1), .slice Ao57 t183.length co57, .int .i64 ((rd_T26 t175 3).f0), .int .u64 ((rd_T26 t175 3).f1), .string ((rd_T26 t175 3).f2), .slice A190_3 ((rd_T26 t175 3).f3).length c190_3, .int .i64 0, .int .u64 0, .string (⟨#[]⟩ : ByteArray), .slice none 0 0]) ?_ 7 _ rfl; (with_reducible repeat (first | refine blk_drewN ?_ _ | refine blk_drew ?_ | refine blk_alloc ?_ _)); refine blk_put (cs := #[.int .u64 ((rd_T26 t175 0).f1), .int .u64 ((rd_T26 t175 1).f1), .slice Ao57 t183.length co57, .int .i64 ((rd_T26 t175 3).f0), .int .u64 ((rd_T26 t175 3).f1), .string ((rd_T26 t175 3).f2), .slice none 0 0, .int .i64 0, .int .u64 0, .string (⟨#[]⟩ : ByteArray), .slice none 0 0]) ?_ 6 _ rfl; (with_reducible repeat (first | refine blk_drewN ?_ _ | refine blk_drew ?_ | refine blk_alloc ?_ _)); refine blk_put (cs := #[.int .u64 ((rd_T26 t175 0).f1), .int .u64 ((rd_T26 t175 1).f1), .slice Ao57 t183.length co57, .int .i64 ((rd_T26 t175 3).f0), .int .u64 ((rd_T26 t175 3).f1), .string (⟨#[]⟩ : ByteArray), .slice none 0 0, .int .i64 0, .int .u64 0, .string (⟨#[]⟩ : ByteArray), .slice none 0 0]) ?_ 5 _ rfl; (with_reducible repeat (first | refine blk_drewN ?_ _ | refine blk_drew ?_ | refine blk_alloc ?_ _)); refine blk_put (cs := #[.int .u64 ((rd_T26 t175 0).f1), .int .u64 ((rd_T26 t175 1).f1), .slice Ao57 t183.length co57, .int .i64 ((rd_T26 t175 3).f0), .int .u64 0, .string (⟨#[]⟩ : ByteArray), .slice none 0 0, .int .i64 0, .int .u64 0, .string (⟨#[]⟩ : ByteArray), .slice none 0 0]) ?_ 4 _ rfl; (with_reducible repeat (first | refine blk_drewN ?_ _ | refine blk_drew ?_ | refine blk_alloc ?_ _)); refine blk_put (cs := #[.int .u64 ((rd_T26 t175 0).f1), .int .u64 ((rd_T26 t175 1).f1), .slice Ao57 t183.length co57, .int .i64 0, .int .u64 0, .string (⟨#[]⟩ : ByteArray), .slice none 0 0, .int .i64 0, .int .u64 0, .string (⟨#[]⟩ : ByteArray), .slice none 0 0]) ?_ 3 _ rfl; (with_reducible repeat (first | refine blk_drewN ?_ _ | refine blk_drew ?_ | refine blk_alloc ?_ _)); refine blk_put (cs := #[.int .u64 ((rd_T26 t175 0).f1), .int .u64 ((rd_T26 t175 1).f1), .slice none 0 0, .int .i64 0, .int .u64 0, .string (⟨#[]⟩ : ByteArray), .slice none 0 0, .int .i64 0, .int .u64 0, .string (⟨#[]⟩ : ByteArray), .slice none 0 0]) ?_ 2 _ rfl; (with_reducible repeat (first | refine blk_drewN ?_ _ | refine blk_drew ?_ | refine blk_alloc ?_ _)); refine blk_put (cs := #[.int .u64 ((rd_T26 t175 0).f1), .int .u64 0, .slice none 0 0, .int .i64 0, .int .u64 0, .string (⟨#[]⟩ : ByteArray), .slice none 0 0, .int .i64 0, .int .u64 0, .string (⟨#[]⟩ : ByteArray), .slice none 0 0]) ?_ 1 _ rfl; (with_reducible repeat (first | refine blk_drewN ?_ _ | refine blk_drew ?_ | refine blk_alloc ?_ _)); refine blk_put (cs := zS_) ?_ 0 _ rfl; (with_reducible repeat (first | refine blk_drewN ?_ _ | refine blk_drew ?_ | refine blk_alloc ?_ _)); exact BK166.out) Tryd.underlying28 rfl (by kernel_rfl)) rfl ?_
               exact ⟨_, _, _, pE, by (with_reducible repeat (first | apply Kd.R_alloc | apply Kd.R_drewN | apply Kd.R_drew)); exact Kd.R_mono (Kd.R_far (p := ⟨gb166, 10, none⟩) (Kd.R_far (p := ⟨gb166, 9, none⟩) (Kd.R_far (p := ⟨gb166, 8, none⟩) (Kd.R_far (p := ⟨gb166, 7, none⟩) (Kd.R_far (p := ⟨gb166, 6, none⟩) (Kd.R_far (p := ⟨gb166, 5, none⟩) (Kd.R_far (p := ⟨gb166, 4, none⟩) (Kd.R_far (p := ⟨gb166, 3, none⟩) (Kd.R_far (p := ⟨gb166, 2, none⟩) (Kd.R_far (p := ⟨gb166, 1, none⟩) (Kd.R_far (p := ⟨gb166, 0, none⟩) (Kd.R_types HO185.out BK166.out (by decide)) (fun _ hk => hk.2) (.int .u64 ((rd_T26 t175 0).f1))) (fun _ hk => hk.2) (.int .u64 ((rd_T26 t175 1).f1))) (fun _ hk => hk.2) (.slice Ao57 t183.length co57)) (fun _ hk => hk.2) (.int .i64 ((rd_T26 t175 3).f0))) (fun _ hk => hk.2) (.int .u64 ((rd_T26 t175 3).f1))) (fun _ hk => hk.2) (.string ((rd_T26 t175 3).f2))) (fun _ hk => hk.2) (.slice A190_3 ((rd_T26 t175 3).f3).length c190_3)) (fun _ hk => hk.2) (.int .i64 ((rd_T26 t175 4).f0))) (fun _ hk => hk.2) (.int .u64 ((rd_T26 t175 4).f1))) (fun _ hk => hk.2) (.string ((rd_T26 t175 4).f2))) (fun _ hk => hk.2) (.slice A191_3 ((rd_T26 t175 4).f3).length c191_3)) (fun _ hk => hk.1.1), Kd.R_V (by (with_reducible repeat (first | apply Kd.R_alloc | apply Kd.R_drewN | apply Kd.R_drew)); exact Kd.R_mono (Kd.R_far (p := ⟨gb166, 10, none⟩) (Kd.R_far (p := ⟨gb166, 9, none⟩) (Kd.R_far (p := ⟨gb166, 8, none⟩) (Kd.R_far (p := ⟨gb166, 7, none⟩) (Kd.R_far (p := ⟨gb166, 6, none⟩) (Kd.R_far (p := ⟨gb166, 5, none⟩) (Kd.R_far (p := ⟨gb166, 4, none⟩) (Kd.R_far (p := ⟨gb166, 3, none⟩) (Kd.R_far (p := ⟨gb166, 2, none⟩) (Kd.R_far (p := ⟨gb166, 1, none⟩) (Kd.R_far (p := ⟨gb166, 0, none⟩) (Kd.R_types (Kd.R_apart' HL190_3.out (Kd.R_typed HO185.out) (by decide)) BK166.out (by decide)) (fun _ hk => hk.2) (.int .u64 ((rd_T26 t175 0).f1))) (fun _ hk => hk.2) (.int .u64 ((rd_T26 t175 1).f1))) (fun _ hk => hk.2) (.slice Ao57 t183.length co57)) (fun _ hk => hk.2) (.int .i64 ((rd_T26 t175 3).f0))) (fun _ hk => hk.2) (.int .u64 ((rd_T26 t175 3).f1))) (fun _ hk => hk.2) (.string ((rd_T26 t175 3).f2))) (fun _ hk => hk.2) (.slice A190_3 ((rd_T26 t175 3).f3).length c190_3)) (fun _ hk => hk.2) (.int .i64 ((rd_T26 t175 4).f0))) (fun _ hk => hk.2) (.int .u64 ((rd_T26 t175 4).f1))) (fun _ hk => hk.2) (.string ((rd_T26 t175 4).f2))) (fun _ hk => hk.2) (.slice A191_3 ((rd_T26 t175 4).f3).length c191_3)) (fun _ hk => ⟨hk.1.1.1.1, hk.1.2⟩)), Kd.R_V (by (with_reducible repeat (first | apply Kd.R_alloc | apply Kd.R_drewN | apply Kd.R_drew)); exact Kd.R_mono (Kd.R_far (p := ⟨gb166, 10, none⟩) (Kd.R_far (p := ⟨gb166, 9, none⟩) (Kd.R_far (p := ⟨gb166, 8, none⟩) (Kd.R_far (p := ⟨gb166, 7, none⟩) (Kd.R_far (p := ⟨gb166, 6, none⟩) (Kd.R_far (p := ⟨gb166, 5, none⟩) (Kd.R_far (p := ⟨gb166, 4, none⟩) (Kd.R_far (p := ⟨gb166, 3, none⟩) (Kd.R_far (p := ⟨gb166, 2, none⟩) (Kd.R_far (p := ⟨gb166, 1, none⟩) (Kd.R_far (p := ⟨gb166, 0, none⟩) (Kd.R_types (Kd.R_apart' HL191_3.out (Kd.R_typed HO185.out) (by decide)) BK166.out (by decide)) (fun _ hk => hk.2) (.int .u64 ((rd_T26 t175 0).f1))) (fun _ hk => hk.2) (.int .u64 ((rd_T26 t175 1).f1))) (fun _ hk => hk.2) (.slice Ao57 t183.length co57)) (fun _ hk => hk.2) (.int .i64 ((rd_T26 t175 3).f0))) (fun _ hk => hk.2) (.int .u64 ((rd_T26 t175 3).f1))) (fun _ hk => hk.2) (.string ((rd_T26 t175 3).f2))) (fun _ hk => hk.2) (.slice A190_3 ((rd_T26 t175 3).f3).length c190_3)) (fun _ hk => hk.2) (.int .i64 ((rd_T26 t175 4).f0))) (fun _ hk => hk.2) (.int .u64 ((rd_T26 t175 4).f1))) (fun _ hk => hk.2) (.string ((rd_T26 t175 4).f2))) (fun _ hk => hk.2) (.slice A191_3 ((rd_T26 t175 4).f3).length c191_3)) (fun _ hk => ⟨hk.1.1.1.1, hk.1.2⟩)), pB⟩
              ·rw [if_neg c51] at H
               exact absurd H (by simp)
             ·rw [if_neg c50] at H
              exact absurd H (by simp)
            ·rw [if_neg c49] at H
             exact absurd H (by simp)
          ·rw [if_neg c42] at H
           exact absurd H (by simp)
         ·replace c41 := Bool.eq_false_iff.mpr c41
          subst c41
          rw [if_neg (show ¬ (false = true) by decide)] at H
          simp only [Option.some.injEq, Prod.mk.injEq] at H
          obtain ⟨rfl, rfl, rfl, rfl, rfl, rfl, rfl, rfl, rfl, rfl, rfl, rfl⟩ := H
          have hnb69 := NB179_166.out
          have hnc69 := NB166_179.out
          have q70 := cf4 BK179.out
          have p182 : 0 ≤ (2 : Int) := (by omega)
          have q182 : 2 < (t175.length : Int) := pD
          obtain ⟨ad182, A182_3, c182_3, e182, hx182_0, hx182_1, hx182_2, hx182_3, hl182_3, hi182_3⟩ := at_T26 (Kd.R_reads' HO_180003.out).2.2 2 p182 q182
          cases e182
          obtain ⟨ce182, hce182, hMe182, hcc182⟩ := Kd.R_get HO_180003.out z26 2 p182 (by first | exact q182 | exact pD | (have e_ := (Kd.R_reads' HO_180003.out).1; omega))
          obtain ⟨ve182_3, rfl, ge182_3⟩ := k26_openM hMe182
          have hv182_3 := hcc182 3 _ rfl
          rw [add_field _ _ 3 (by omega)] at hv182_3
          replace hv182_3 := Option.some.inj (hv182_3.symm.trans hx182_3)
          rw [hv182_3] at ge182_3
          have HL182_3 := am (show Kd.R k26 26 _ _ _ _ ((rd_T26 t175 2).f3) from ge182_3)
          clear hv182_3 ge182_3 hcc182 hce182
          (try simp only [show (2 : Int).toNat = 2 from rfl, Nat.reduceMul, Nat.reduceEqDiff, Go.Addr.add, ↓reduceIte] at hx182_0)
          (try simp only [show (2 : Int).toNat = 2 from rfl, Nat.reduceMul, Nat.reduceEqDiff, Go.Addr.add, ↓reduceIte] at hx182_1)
          (try simp only [show (2 : Int).toNat = 2 from rfl, Nat.reduceMul, Nat.reduceEqDiff, Go.Addr.add, ↓reduceIte] at hx182_2)
          (try simp only [show (2 : Int).toNat = 2 from rfl, Nat.reduceMul, Nat.reduceEqDiff, Go.Addr.add, ↓reduceIte] at hx182_3)
          have qi182 : (2 < t175.length) = True := eq_true (by omega)
          (try rw [show ((2 : Int)).toNat = 2 from rfl] at hx182_0)
          (try rw [show 2 * 4 = 8 from rfl] at hx182_0)
          (try rw [show ((2 : Int)).toNat = 2 from rfl] at hx182_1)
          (try rw [show 2 * 4 = 8 from rfl] at hx182_1)
          (try rw [show ((2 : Int)).toNat = 2 from rfl] at hx182_2)
          (try rw [show 2 * 4 = 8 from rfl] at hx182_2)
          (try rw [show ((2 : Int)).toNat = 2 from rfl] at hx182_3)
          (try rw [show 2 * 4 = 8 from rfl] at hx182_3)
          have HR182_3 := am hi182_3
          have HC182_3 := am hl182_3
          clear hi182_3 hl182_3
          replace p182 := eq_true p182
          replace q182 := eq_true q182
          go_wp2_with (first | ((with_reducible refine gate_callee (f := 38) rfl ?_); refine goesL_ (some 69) rfl rfl Tryd.func38 (by kernel_rfl) rfl #[.agg #[.int .i64 ((rd_T26 t175 2).f0), .int .u64 ((rd_T26 t175 2).f1), .string ((rd_T26 t175 2).f2), .slice A182_3 ((rd_T26 t175 2).f3).length c182_3]] rfl pM ?_; (with_reducible refine (snap_read.calls kj15 ((rd_T26 t175 2).f0) ((rd_T26 t175 2).f1) ((rd_T26 t175 2).f2) _ _ ((rd_T26 t175 2).f3) t183 false _ ?side1 ?side2 A40.out).mono ?_); (case side1 => repeat (first | exact (by repeat (first | (with_reducible exact HR182_3.out) | (with_reducible refine Kd.C_alloc ?_ _) | (with_reducible refine Kd.C_drewN ?_ _) | (with_reducible refine Kd.C_drew ?_) | exact HR182_3.out)) | (with_reducible refine Kd.C_alloc ?_ _) | (with_reducible refine Kd.C_drewN ?_ _) | (with_reducible refine Kd.C_drew ?_))); (case side2 => exact HC182_3.out); rintro e w71 ⟨v184, rfl, ho0, hb⟩; refine ⟨_, rfl, ?_⟩; replace HO_180003 := am (Kd.R_below (pR HO_180003.out) hb); replace HL182_3 := am (Kd.R_below (pR HL182_3.out) hb); have HO185 := am (Kd.R_lower (Kd.R_newM (M := fun k_ => (w.heap.size ≤ k_)) ho0 (below_size pB) (fun k_ h_ => h_)) (below_size pB)); replace BK166 := am (pkb BK166.out hb); replace BK179 := am (pkb BK179.out hb); replace HR182_3 := am (Kd.C_below (by repeat (first | (with_reducible exact HR182_3.out) | (with_reducible refine Kd.C_alloc ?_ _) | (with_reducible refine Kd.C_drewN ?_ _) | (with_reducible refine Kd.C_drew ?_) | exact HR182_3.out)) hb); replace HB := am (below_step pB hb); (try clear hb); (try clear hb2); (try clear hk); (try clear hi); (try clear ho0); have q72 := cf11 BK166.out))
          refine bodyPost_ret (results_ct rfl _ _ gb166 28 #[.int .u64 0, .int .u64 0, .slice none 0 0, .int .i64 0, .int .u64 0, .string (⟨#[]⟩ : ByteArray), .slice none 0 0, .int .i64 0, .int .u64 0, .string (⟨#[]⟩ : ByteArray), .slice none 0 0] (0, 0) _ rfl (by (iterate 11 ((with_reducible repeat (first | refine blk_drewN ?_ _ | refine blk_drew ?_ | refine blk_alloc ?_ _)); refine blk_put (cs := zS_) ?_ _ _ rfl)); (with_reducible repeat (first | refine blk_drewN ?_ _ | refine blk_drew ?_ | refine blk_alloc ?_ _)); exact BK166.out) Tryd.underlying28 rfl (by kernel_rfl)) rfl ?_
          exact ⟨_, _, _, pE, pZ, pZ, pZ, pB⟩
        ·rw [if_neg c39] at H
         exact absurd H (by simp)
end Go.Proofs.YtlkaffbgekbcfaaDoor.Pr
end
section
namespace Go.Proofs.YtlkaffbgekbcfaaDoor.Pr
open Go.RowKit Go.Proofs.YtlkaffbgekbcfaaDoorW.PrintWords Go.Proofs.YtlkaffbgekbcfaaDoorW.PrintLast Go.Proofs.YtlkaffbgekbcfaaDoorW.PrintMore
attribute [local go_sem] max2_int min2_int max_two min_two max_three min_three max_four min_four
def minstrellaw19_lives.f (k : Nat)  : Option (Bool) := (snap_Save.f k 5 0 (([1, 3] : List Int)) 0 0 (⟨#[]⟩ : ByteArray) ([] : List (S26)) 0 0 (⟨#[]⟩ : ByteArray) ([] : List (S26))).bind fun bt195 => ((snap_Load.f k bt195.1).bind fun bt199 => (if bt195.2 = 0 then (if bt199.2.2.2.2.2.2.2.2.2.2.2 = 0 then (if bt199.1 = 5 then (if (bt199.2.2.1.length : Int) = 2 then ((snap_Members.f k (([1, 3] : List Int))).bind fun t221 => (if t221 = true then ((snap_Members.f k (([3, 1] : List Int))).bind fun t225 => (some (!t225))) else (none))) else (none)) else (none)) else (none)) else (none)))
theorem minstrellaw19_lives.mono : ∀ k, LeO (minstrellaw19_lives.f k ) (minstrellaw19_lives.f (k + 1) ) := by
 intro  k
 unfold minstrellaw19_lives.f
 repeat' first
   | (with_reducible exact snap_Load.mono _ _)
   | (with_reducible exact snap_Members.mono _ _)
   | (with_reducible exact snap_Save.mono _ _ _ _ _ _ _ _ _ _ _ _)
   | (with_reducible exact LeO.refl _)
   | (with_reducible exact LeO.none _)
   | (with_reducible refine LeO.ite ?_ ?_)
   | (with_reducible refine LeO.bind ?_ (fun _ => ?_))
   | exact snap_Load.mono _ _
   | exact snap_Members.mono _ _
   | exact snap_Save.mono _ _ _ _ _ _ _ _ _ _ _ _
   | exact LeO.none _
   | refine LeO.ite ?_ ?_
   | refine LeO.bind ?_ (fun _ => ?_)
set_option maxHeartbeats 8000000 in
set_option maxRecDepth 100000 in
theorem minstrellaw19_lives.calls (k : Nat)  (r : Bool) (w : World) (hG : QuarterLaid w) (h : minstrellaw19_lives.f k  = some r) :
  Calls Tryd.prog 8 #[] w fun e w' => e = .returned (.bool r) ∧ Below w.heap.size w w' := by
 have hu28 := Tryd.underlying28
 have HG := am hG
 clear hG
 have HB := am (Below.refl w.heap.size w)
 have H : ((snap_Save.f k 5 0 (([1, 3] : List Int)) 0 0 (⟨#[]⟩ : ByteArray) ([] : List (S26)) 0 0 (⟨#[]⟩ : ByteArray) ([] : List (S26))).bind fun bt195 => ((snap_Load.f k bt195.1).bind fun bt199 => (if bt195.2 = 0 then (if bt199.2.2.2.2.2.2.2.2.2.2.2 = 0 then (if bt199.1 = 5 then (if (bt199.2.2.1.length : Int) = 2 then ((snap_Members.f k (([1, 3] : List Int))).bind fun t221 => (if t221 = true then ((snap_Members.f k (([3, 1] : List Int))).bind fun t225 => (some (!t225))) else (none))) else (none)) else (none)) else (none)) else (none)))) = some r := h
 clear h
 obtain ⟨y192, hy192⟩ : ∃ y_ : List Int, y_ = (([1, 3] : List Int)) := ⟨_, rfl⟩
 replace H : ((snap_Save.f k 5 0 y192 0 0 (⟨#[]⟩ : ByteArray) ([] : List (S26)) 0 0 (⟨#[]⟩ : ByteArray) ([] : List (S26))).bind fun bt195 => ((snap_Load.f k bt195.1).bind fun bt199 => (if bt195.2 = 0 then (if bt199.2.2.2.2.2.2.2.2.2.2.2 = 0 then (if bt199.1 = 5 then (if (bt199.2.2.1.length : Int) = 2 then ((snap_Members.f k (([1, 3] : List Int))).bind fun t221 => (if t221 = true then ((snap_Members.f k (([3, 1] : List Int))).bind fun t225 => (some (!t225))) else (none))) else (none)) else (none)) else (none)) else (none)))) = some r := by first | (rw [hy192]; with_reducible exact H) | (have H2_ := (Option.bind_some _ _).symm.trans H; rw [hy192]; with_reducible exact H2_) | (have H2_ := (Option.bind_some _ _).symm.trans H; with_reducible exact H2_) | with_reducible exact H | (rw [hy192]; exact H) | exact H
 have Ny192 := am hy192
 clear hy192
 replace H := Option.bind_eq_some_iff.mp H
 obtain ⟨⟨t195, t198⟩, A10, H⟩ := H
 try dsimp only at H
 have A1 := am A10
 clear A10
 replace H := Option.bind_eq_some_iff.mp H
 obtain ⟨⟨t199, t200, t201, t204, t205, t206, t207, t210, t211, t212, t213, t216⟩, A20, H⟩ := H
 try dsimp only at H
 have A2 := am A20
 clear A20
 by_cases c3 : t198 = 0
 ·rw [if_pos c3] at H
  have c3b0 : (t198 == 0) = true := beq_iff_eq.mpr c3
  have c3b1 : (t198 != 0) = false := bne_eq_false_iff_eq.mpr c3
  clear c3
  by_cases c4 : t216 = 0
  ·rw [if_pos c4] at H
   have c4b0 : (t216 == 0) = true := beq_iff_eq.mpr c4
   have c4b1 : (t216 != 0) = false := bne_eq_false_iff_eq.mpr c4
   clear c4
   by_cases c5 : t199 = 5
   ·rw [if_pos c5] at H
    have c5b0 : (t199 == 5) = true := beq_iff_eq.mpr c5
    have c5b1 : (t199 != 5) = false := bne_eq_false_iff_eq.mpr c5
    clear c5
    by_cases c6 : (t201.length : Int) = 2
    ·rw [if_pos c6] at H
     have c6b0 : ((t201.length : Int) == 2) = true := beq_iff_eq.mpr c6
     have c6b1 : ((t201.length : Int) != 2) = false := bne_eq_false_iff_eq.mpr c6
     clear c6
     obtain ⟨y218, hy218⟩ : ∃ y_ : List Int, y_ = (([1, 3] : List Int)) := ⟨_, rfl⟩
     replace H : ((snap_Members.f k y218).bind fun t221 => (if t221 = true then ((snap_Members.f k (([3, 1] : List Int))).bind fun t225 => (some (!t225))) else (none))) = some r := by first | (rw [hy218]; with_reducible exact H) | (have H2_ := (Option.bind_some _ _).symm.trans H; rw [hy218]; with_reducible exact H2_) | (have H2_ := (Option.bind_some _ _).symm.trans H; with_reducible exact H2_) | with_reducible exact H | (rw [hy218]; exact H) | exact H
     have Ny218 := am hy218
     clear hy218
     replace H := Option.bind_eq_some_iff.mp H
     obtain ⟨t221, A70, H⟩ := H
     try dsimp only at H
     have A7 := am A70
     clear A70
     by_cases c8 : t221 = true
     ·subst c8
      rw [if_pos rfl] at H
      obtain ⟨y222, hy222⟩ : ∃ y_ : List Int, y_ = (([3, 1] : List Int)) := ⟨_, rfl⟩
      replace H : ((snap_Members.f k y222).bind fun t225 => (some (!t225))) = some r := by first | (rw [hy222]; with_reducible exact H) | (have H2_ := (Option.bind_some _ _).symm.trans H; rw [hy222]; with_reducible exact H2_) | (have H2_ := (Option.bind_some _ _).symm.trans H; with_reducible exact H2_) | with_reducible exact H | (rw [hy222]; exact H) | exact H
      have Ny222 := am hy222
      clear hy222
      replace H := Option.bind_eq_some_iff.mp H
      obtain ⟨t225, A90, H⟩ := H
      try dsimp only at H
      have A9 := am A90
      clear A90
      obtain rfl := Option.some.inj H
      go_enter Tryd.func8, Tryd.ntmps8
      go_wp2_with (first | ((with_reducible refine gate_dst (N := 6) rfl ?_); (try (refine gate_guard (by rfl) ?_; dsimp only)); refine Kd.R_lit (Kd.int .i64) _ 3 ?hg (N := 6) ?hd (xs := ([1, 3] : List Int)) (inner := [.int .i64 1, .int .i64 3]) (ok := fun _ => True) (okp := fun _ => True) ?hr ?hp (fun _ hk => hk) trivial (Below.refl _ _) (Nat.le_refl _) (by simp) ?_; (case hd => rfl); (case hg => rfl); (case hr => first | (go_simp; done) | (go_simp; rfl)); (case hp => exact (Reps.one (show Kd.M (Kd.int .i64) _ _ _ 1 [.int .i64 1] from rfl) (Reps.one (show Kd.M (Kd.int .i64) _ _ _ 3 [.int .i64 3] from rfl) (Reps.none _ _)))); intro v193 w10 ho11 hb hg_ hnew_; clear hg_ hnew_; (first | rw [← Ny192.out] at ho11 | (simp only [Int.reduceToNat] at ho11; rw [← Ny192.out] at ho11)); have HO194 := am (Kd.R_lower ho11 (below_size pB)); replace HB := am (below_step pB hb); clear hb ho11; obtain ⟨Ao12, co12, eo12⟩ := Kd.R_slice HO194.out; subst eo12) | ((with_reducible refine gate_callee (f := 9) rfl ?_); refine goesL_ (some 8) rfl rfl Tryd.func9 (by kernel_rfl) rfl #[.agg #[.int .u64 5, .int .u64 0, .slice Ao12 y192.length co12, .int .i64 0, .int .u64 0, .string (⟨#[]⟩ : ByteArray), .slice none 0 0, .int .i64 0, .int .u64 0, .string (⟨#[]⟩ : ByteArray), .slice none 0 0]] rfl pM ?_; (refine (snap_Save.calls k 5 0 _ _ y192 0 0 (⟨#[]⟩ : ByteArray) (fun k_ => False) _ _ ([] : List (S26)) 0 0 (⟨#[]⟩ : ByteArray) (fun k_ => False) _ _ ([] : List (S26)) t195 t198 _ ?side1 ?side2 ?side3 ?side4 ?side5 A1.out).mono ?_); (case side1 => repeat (first | exact (Kd.R_reads' HO194.out).2.2 | (with_reducible refine Kd.C_alloc ?_ _) | (with_reducible refine Kd.C_drewN ?_ _) | (with_reducible refine Kd.C_drew ?_))); (case side2 => exact (Kd.R_reads' HO194.out).2.1); (case side3 => exact Kd.V_nil _ _ _ _ _); (case side4 => exact Kd.V_nil _ _ _ _ _); (case side5 => exact pG); rintro e w13 ⟨v196, rfl, ho0, hb⟩; refine ⟨_, rfl, ?_⟩; replace HO194 := am (Kd.R_below (pR HO194.out) hb); have HO197 := am (Kd.R_lower (Kd.R_mono (ok' := fun k_ => True) ho0 (fun _ hk_ => trivial)) (below_size pB)); replace HB := am (below_step pB hb); (try clear hb); (try clear hb2); (try clear hk); (try clear hi); (try clear ho0); obtain ⟨Ao14, co14, eo14⟩ := Kd.R_slice HO197.out; subst eo14) | ((with_reducible refine gate_callee (f := 14) rfl ?_); refine goesL_ (some 13) rfl rfl Tryd.func14 (by kernel_rfl) rfl #[.slice Ao14 t195.length co14] rfl pM ?_; (with_reducible refine (snap_Load.calls k _ _ t195 t199 t200 t201 t204 t205 t206 t207 t210 t211 t212 t213 t216 _ ?side1 ?side2 ?side3 A2.out).mono ?_); (case side1 => repeat (first | exact (Kd.R_reads' HO197.out).2.2 | (with_reducible refine Kd.C_alloc ?_ _) | (with_reducible refine Kd.C_drewN ?_ _) | (with_reducible refine Kd.C_drew ?_))); (case side2 => exact (Kd.R_reads' HO197.out).2.1); (case side3 => exact pG); rintro e w15 ⟨v202, v208, v214, rfl, ho0, ho1, ho2, hb⟩; refine ⟨_, rfl, ?_⟩; have HO203 := am (Kd.R_lower (Kd.R_new' (Kd.R_mono (ok' := fun k_ => True) ho0 (fun _ hk_ => trivial)) (Kd.R_lt (pR HO194.out))) (below_size pB)); have HO209 := am (Kd.V_lower (Kd.V_mono (ok' := fun k_ => some k_ ≠ (v202 : Value).ownBlock ∧ some k_ ≠ (.slice Ao12 y192.length co12 : Value).ownBlock ∧ some k_ ≠ (.slice Ao14 t195.length co14 : Value).ownBlock) ho1 (fun k_ hk_ => ⟨hk_.2, (Kd.fresh' (Kd.R_lt (pR HO194.out)) k_ hk_.1), (Kd.fresh' (Kd.R_lt (pR HO197.out)) k_ hk_.1)⟩)) (below_size pB)); have HO215 := am (Kd.V_lower (Kd.V_mono (ok' := fun k_ => some k_ ≠ (v202 : Value).ownBlock ∧ some k_ ≠ (.slice Ao12 y192.length co12 : Value).ownBlock ∧ some k_ ≠ (.slice Ao14 t195.length co14 : Value).ownBlock) ho2 (fun k_ hk_ => ⟨hk_.2, (Kd.fresh' (Kd.R_lt (pR HO194.out)) k_ hk_.1), (Kd.fresh' (Kd.R_lt (pR HO197.out)) k_ hk_.1)⟩)) (below_size pB)); replace HO194 := am (Kd.R_elder' (pR HO194.out) (Kd.R_base ho0) hb); replace HO197 := am (Kd.R_below (pR HO197.out) hb); replace HB := am (below_step pB hb); (try clear hb); (try clear hb2); (try clear hk); (try clear hi); (try clear ho0); (try clear ho1); (try clear ho2)) | ((with_reducible refine gate_dst (N := 3) rfl ?_); (try (refine gate_guard (by rfl) ?_; dsimp only)); refine box_event ?hg (N := 3) ?hd (cs := zS_) (t := 28) ?hr ?_; (case hd => rfl); (case hg => rfl); (case hr => first | (go_simp; done) | (go_simp; rfl)); intro gb217 hg w16 hbox hb; replace HO194 := am (Kd.R_below (pR HO194.out) hb); replace HO197 := am (Kd.R_below (pR HO197.out) hb); replace HO203 := am (Kd.R_below (pR HO203.out) hb); replace HO209 := am (Kd.V_below (Kd.V_elderB (pV HO209.out) gb217 (Nat.le_of_eq hg.symm)) hb); replace HO215 := am (Kd.V_below (Kd.V_elderB (pV HO215.out) gb217 (Nat.le_of_eq hg.symm)) hb); have BK217 := am (hbox); have GW217 := am ((by rw [hg]; exact (below_size pB) : w.heap.size ≤ gb217)); have GE217 := am ((by rw [hg]; exact (below_size pB) : w.heap.size ≤ gb217)); replace HB := am (below_step pB hb); clear hb hbox hg; have q17 := cf11 BK217.out; obtain ⟨Ao18, co18, eo18⟩ := Kd.R_slice HO203.out; subst eo18; obtain ⟨Ao19, co19, eo19⟩ := Kd.V_slice HO209.out; subst eo19; obtain ⟨Ao20, co20, eo20⟩ := Kd.V_slice HO215.out; subst eo20) | ((with_reducible refine gate_dst (N := 34) rfl ?_); (try (refine gate_guard (by rfl) ?_; dsimp only)); refine Kd.R_lit (Kd.int .i64) _ 3 ?hg (N := 34) ?hd (xs := ([1, 3] : List Int)) (inner := [.int .i64 1, .int .i64 3]) (ok := fun _ => True) (okp := fun _ => True) ?hr ?hp (fun _ hk => hk) trivial (Below.refl _ _) (Nat.le_refl _) (by simp) ?_; (case hd => rfl); (case hg => rfl); (case hr => first | (go_simp; done) | (go_simp; rfl)); (case hp => exact (Reps.one (show Kd.M (Kd.int .i64) _ _ _ 1 [.int .i64 1] from rfl) (Reps.one (show Kd.M (Kd.int .i64) _ _ _ 3 [.int .i64 3] from rfl) (Reps.none _ _)))); intro v219 w21 ho22 hb hg_ hnew_; clear hg_ hnew_; (first | rw [← Ny218.out] at ho22 | (simp only [Int.reduceToNat] at ho22; rw [← Ny218.out] at ho22)); replace HO197 := am (Kd.R_below (by (with_reducible repeat (first | apply Kd.R_alloc | apply Kd.R_drewN | apply Kd.R_drew)); exact (Kd.R_mono (Kd.R_far (p := ⟨gb217, 10, none⟩) (Kd.R_far (p := ⟨gb217, 9, none⟩) (Kd.R_far (p := ⟨gb217, 8, none⟩) (Kd.R_far (p := ⟨gb217, 7, none⟩) (Kd.R_far (p := ⟨gb217, 6, none⟩) (Kd.R_far (p := ⟨gb217, 5, none⟩) (Kd.R_far (p := ⟨gb217, 4, none⟩) (Kd.R_far (p := ⟨gb217, 3, none⟩) (Kd.R_far (p := ⟨gb217, 2, none⟩) (Kd.R_far (p := ⟨gb217, 1, none⟩) (Kd.R_far (p := ⟨gb217, 0, none⟩) (Kd.R_types HO197.out BK217.out (by decide)) (fun _ hk => hk.2) (.int .u64 t199)) (fun _ hk => hk.2) (.int .u64 t200)) (fun _ hk => hk.2) (.slice Ao18 t201.length co18)) (fun _ hk => hk.2) (.int .i64 t204)) (fun _ hk => hk.2) (.int .u64 t205)) (fun _ hk => hk.2) (.string t206)) (fun _ hk => hk.2) (.slice Ao19 t207.length co19)) (fun _ hk => hk.2) (.int .i64 t210)) (fun _ hk => hk.2) (.int .u64 t211)) (fun _ hk => hk.2) (.string t212)) (fun _ hk => hk.2) (.slice Ao20 t213.length co20)) (fun _ h_ => h_.1))) hb); replace HO209 := am (Kd.V_elder' (by (with_reducible repeat (first | apply Kd.V_alloc | apply Kd.V_drewN | apply Kd.V_drew)); exact (Kd.V_mono (Kd.V_far (p := ⟨gb217, 10, none⟩) (Kd.V_far (p := ⟨gb217, 9, none⟩) (Kd.V_far (p := ⟨gb217, 8, none⟩) (Kd.V_far (p := ⟨gb217, 7, none⟩) (Kd.V_far (p := ⟨gb217, 6, none⟩) (Kd.V_far (p := ⟨gb217, 5, none⟩) (Kd.V_far (p := ⟨gb217, 4, none⟩) (Kd.V_far (p := ⟨gb217, 3, none⟩) (Kd.V_far (p := ⟨gb217, 2, none⟩) (Kd.V_far (p := ⟨gb217, 1, none⟩) (Kd.V_far (p := ⟨gb217, 0, none⟩) (Kd.V_mono HO209.out (fun k_ hk => (⟨hk, hk.2⟩ : _ ∧ k_ ≠ gb217))) (fun _ hk => hk.2) (.int .u64 t199)) (fun _ hk => hk.2) (.int .u64 t200)) (fun _ hk => hk.2) (.slice Ao18 t201.length co18)) (fun _ hk => hk.2) (.int .i64 t204)) (fun _ hk => hk.2) (.int .u64 t205)) (fun _ hk => hk.2) (.string t206)) (fun _ hk => hk.2) (.slice Ao19 t207.length co19)) (fun _ hk => hk.2) (.int .i64 t210)) (fun _ hk => hk.2) (.int .u64 t211)) (fun _ hk => hk.2) (.string t212)) (fun _ hk => hk.2) (.slice Ao20 t213.length co20)) (fun _ h_ => h_.1))) (Kd.R_base ho22) hb); replace HO215 := am (Kd.V_elder' (by (with_reducible repeat (first | apply Kd.V_alloc | apply Kd.V_drewN | apply Kd.V_drew)); exact (Kd.V_mono (Kd.V_far (p := ⟨gb217, 10, none⟩) (Kd.V_far (p := ⟨gb217, 9, none⟩) (Kd.V_far (p := ⟨gb217, 8, none⟩) (Kd.V_far (p := ⟨gb217, 7, none⟩) (Kd.V_far (p := ⟨gb217, 6, none⟩) (Kd.V_far (p := ⟨gb217, 5, none⟩) (Kd.V_far (p := ⟨gb217, 4, none⟩) (Kd.V_far (p := ⟨gb217, 3, none⟩) (Kd.V_far (p := ⟨gb217, 2, none⟩) (Kd.V_far (p := ⟨gb217, 1, none⟩) (Kd.V_far (p := ⟨gb217, 0, none⟩) (Kd.V_mono HO215.out (fun k_ hk => (⟨hk, hk.2⟩ : _ ∧ k_ ≠ gb217))) (fun _ hk => hk.2) (.int .u64 t199)) (fun _ hk => hk.2) (.int .u64 t200)) (fun _ hk => hk.2) (.slice Ao18 t201.length co18)) (fun _ hk => hk.2) (.int .i64 t204)) (fun _ hk => hk.2) (.int .u64 t205)) (fun _ hk => hk.2) (.string t206)) (fun _ hk => hk.2) (.slice Ao19 t207.length co19)) (fun _ hk => hk.2) (.int .i64 t210)) (fun _ hk => hk.2) (.int .u64 t211)) (fun _ hk => hk.2) (.string t212)) (fun _ hk => hk.2) (.slice Ao20 t213.length co20)) (fun _ h_ => h_.1))) (Kd.R_base ho22) hb); have HO220 := am (Kd.R_lower (Kd.R_new' (Kd.R_new' ho22 (Kd.R_lt (by (with_reducible repeat (first | apply Kd.R_alloc | apply Kd.R_drewN | apply Kd.R_drew)); exact (Kd.R_mono (Kd.R_far (p := ⟨gb217, 10, none⟩) (Kd.R_far (p := ⟨gb217, 9, none⟩) (Kd.R_far (p := ⟨gb217, 8, none⟩) (Kd.R_far (p := ⟨gb217, 7, none⟩) (Kd.R_far (p := ⟨gb217, 6, none⟩) (Kd.R_far (p := ⟨gb217, 5, none⟩) (Kd.R_far (p := ⟨gb217, 4, none⟩) (Kd.R_far (p := ⟨gb217, 3, none⟩) (Kd.R_far (p := ⟨gb217, 2, none⟩) (Kd.R_far (p := ⟨gb217, 1, none⟩) (Kd.R_far (p := ⟨gb217, 0, none⟩) (Kd.R_types HO194.out BK217.out (by decide)) (fun _ hk => hk.2) (.int .u64 t199)) (fun _ hk => hk.2) (.int .u64 t200)) (fun _ hk => hk.2) (.slice Ao18 t201.length co18)) (fun _ hk => hk.2) (.int .i64 t204)) (fun _ hk => hk.2) (.int .u64 t205)) (fun _ hk => hk.2) (.string t206)) (fun _ hk => hk.2) (.slice Ao19 t207.length co19)) (fun _ hk => hk.2) (.int .i64 t210)) (fun _ hk => hk.2) (.int .u64 t211)) (fun _ hk => hk.2) (.string t212)) (fun _ hk => hk.2) (.slice Ao20 t213.length co20)) (fun _ h_ => h_.1))))) (Kd.R_lt (by (with_reducible repeat (first | apply Kd.R_alloc | apply Kd.R_drewN | apply Kd.R_drew)); exact (Kd.R_mono (Kd.R_far (p := ⟨gb217, 10, none⟩) (Kd.R_far (p := ⟨gb217, 9, none⟩) (Kd.R_far (p := ⟨gb217, 8, none⟩) (Kd.R_far (p := ⟨gb217, 7, none⟩) (Kd.R_far (p := ⟨gb217, 6, none⟩) (Kd.R_far (p := ⟨gb217, 5, none⟩) (Kd.R_far (p := ⟨gb217, 4, none⟩) (Kd.R_far (p := ⟨gb217, 3, none⟩) (Kd.R_far (p := ⟨gb217, 2, none⟩) (Kd.R_far (p := ⟨gb217, 1, none⟩) (Kd.R_far (p := ⟨gb217, 0, none⟩) (Kd.R_types HO203.out BK217.out (by decide)) (fun _ hk => hk.2) (.int .u64 t199)) (fun _ hk => hk.2) (.int .u64 t200)) (fun _ hk => hk.2) (.slice Ao18 t201.length co18)) (fun _ hk => hk.2) (.int .i64 t204)) (fun _ hk => hk.2) (.int .u64 t205)) (fun _ hk => hk.2) (.string t206)) (fun _ hk => hk.2) (.slice Ao19 t207.length co19)) (fun _ hk => hk.2) (.int .i64 t210)) (fun _ hk => hk.2) (.int .u64 t211)) (fun _ hk => hk.2) (.string t212)) (fun _ hk => hk.2) (.slice Ao20 t213.length co20)) (fun _ h_ => h_.1))))) (below_size pB)); replace HO194 := am (Kd.R_elder' (by (with_reducible repeat (first | apply Kd.R_alloc | apply Kd.R_drewN | apply Kd.R_drew)); exact (Kd.R_mono (Kd.R_far (p := ⟨gb217, 10, none⟩) (Kd.R_far (p := ⟨gb217, 9, none⟩) (Kd.R_far (p := ⟨gb217, 8, none⟩) (Kd.R_far (p := ⟨gb217, 7, none⟩) (Kd.R_far (p := ⟨gb217, 6, none⟩) (Kd.R_far (p := ⟨gb217, 5, none⟩) (Kd.R_far (p := ⟨gb217, 4, none⟩) (Kd.R_far (p := ⟨gb217, 3, none⟩) (Kd.R_far (p := ⟨gb217, 2, none⟩) (Kd.R_far (p := ⟨gb217, 1, none⟩) (Kd.R_far (p := ⟨gb217, 0, none⟩) (Kd.R_types HO194.out BK217.out (by decide)) (fun _ hk => hk.2) (.int .u64 t199)) (fun _ hk => hk.2) (.int .u64 t200)) (fun _ hk => hk.2) (.slice Ao18 t201.length co18)) (fun _ hk => hk.2) (.int .i64 t204)) (fun _ hk => hk.2) (.int .u64 t205)) (fun _ hk => hk.2) (.string t206)) (fun _ hk => hk.2) (.slice Ao19 t207.length co19)) (fun _ hk => hk.2) (.int .i64 t210)) (fun _ hk => hk.2) (.int .u64 t211)) (fun _ hk => hk.2) (.string t212)) (fun _ hk => hk.2) (.slice Ao20 t213.length co20)) (fun _ h_ => h_.1))) (Kd.R_base ho22) hb); replace HO203 := am (Kd.R_elder' (by (with_reducible repeat (first | apply Kd.R_alloc | apply Kd.R_drewN | apply Kd.R_drew)); exact (Kd.R_mono (Kd.R_far (p := ⟨gb217, 10, none⟩) (Kd.R_far (p := ⟨gb217, 9, none⟩) (Kd.R_far (p := ⟨gb217, 8, none⟩) (Kd.R_far (p := ⟨gb217, 7, none⟩) (Kd.R_far (p := ⟨gb217, 6, none⟩) (Kd.R_far (p := ⟨gb217, 5, none⟩) (Kd.R_far (p := ⟨gb217, 4, none⟩) (Kd.R_far (p := ⟨gb217, 3, none⟩) (Kd.R_far (p := ⟨gb217, 2, none⟩) (Kd.R_far (p := ⟨gb217, 1, none⟩) (Kd.R_far (p := ⟨gb217, 0, none⟩) (Kd.R_types HO203.out BK217.out (by decide)) (fun _ hk => hk.2) (.int .u64 t199)) (fun _ hk => hk.2) (.int .u64 t200)) (fun _ hk => hk.2) (.slice Ao18 t201.length co18)) (fun _ hk => hk.2) (.int .i64 t204)) (fun _ hk => hk.2) (.int .u64 t205)) (fun _ hk => hk.2) (.string t206)) (fun _ hk => hk.2) (.slice Ao19 t207.length co19)) (fun _ hk => hk.2) (.int .i64 t210)) (fun _ hk => hk.2) (.int .u64 t211)) (fun _ hk => hk.2) (.string t212)) (fun _ hk => hk.2) (.slice Ao20 t213.length co20)) (fun _ h_ => h_.1))) (Kd.R_base ho22) hb); replace BK217 := am (blk_below (g := gb217) (o := .cells #[.int .u64 t199, .int .u64 t200, .slice Ao18 t201.length co18, .int .i64 t204, .int .u64 t205, .string t206, .slice Ao19 t207.length co19, .int .i64 t210, .int .u64 t211, .string t212, .slice Ao20 t213.length co20] 28 (0, 0)) (by (with_reducible repeat (first | refine blk_drewN ?_ _ | refine blk_drew ?_ | refine blk_alloc ?_ _)); refine blk_put (cs := #[.int .u64 t199, .int .u64 t200, .slice Ao18 t201.length co18, .int .i64 t204, .int .u64 t205, .string t206, .slice Ao19 t207.length co19, .int .i64 t210, .int .u64 t211, .string t212, .slice none 0 0]) ?_ 10 _ rfl; (with_reducible repeat (first | refine blk_drewN ?_ _ | refine blk_drew ?_ | refine blk_alloc ?_ _)); refine blk_put (cs := #[.int .u64 t199, .int .u64 t200, .slice Ao18 t201.length co18, .int .i64 t204, .int .u64 t205, .string t206, .slice Ao19 t207.length co19, .int .i64 t210, .int .u64 t211, .string (⟨#[]⟩ : ByteArray), .slice none 0 0]) ?_ 9 _ rfl; (with_reducible repeat (first | refine blk_drewN ?_ _ | refine blk_drew ?_ | refine blk_alloc ?_ _)); refine blk_put (cs := #[.int .u64 t199, .int .u64 t200, .slice Ao18 t201.length co18, .int .i64 t204, .int .u64 t205, .string t206, .slice Ao19 t207.length co19, .int .i64 t210, .int .u64 0, .string (⟨#[]⟩ : ByteArray), .slice none 0 0]) ?_ 8 _ rfl; (with_reducible repeat (first | refine blk_drewN ?_ _ | refine blk_drew ?_ | refine blk_alloc ?_ _)); refine blk_put (cs := #[.int .u64 t199, .int .u64 t200, .slice Ao18 t201.length co18, .int .i64 t204, .int .u64 t205, .string t206, .slice Ao19 t207.length co19, .int .i64 0, .int .u64 0, .string (⟨#[]⟩ : ByteArray), .slice none 0 0]) ?_ 7 _ rfl; (with_reducible repeat (first | refine blk_drewN ?_ _ | refine blk_drew ?_ | refine blk_alloc ?_ _)); refine blk_put (cs := #[.int .u64 t199, .int .u64 t200, .slice Ao18 t201.length co18, .int .i64 t204, .int .u64 t205, .string t206, .slice none 0 0, .int .i64 0, .int .u64 0, .string (⟨#[]⟩ : ByteArray), .slice none 0 0]) ?_ 6 _ rfl; (with_reducible repeat (first | refine blk_drewN ?_ _ | refine blk_drew ?_ | refine blk_alloc ?_ _)); refine blk_put (cs := #[.int .u64 t199, .int .u64 t200, .slice Ao18 t201.length co18, .int .i64 t204, .int .u64 t205, .string (⟨#[]⟩ : ByteArray), .slice none 0 0, .int .i64 0, .int .u64 0, .string (⟨#[]⟩ : ByteArray), .slice none 0 0]) ?_ 5 _ rfl; (with_reducible repeat (first | refine blk_drewN ?_ _ | refine blk_drew ?_ | refine blk_alloc ?_ _)); refine blk_put (cs := #[.int .u64 t199, .int .u64 t200, .slice Ao18 t201.length co18, .int .i64 t204, .int .u64 0, .string (⟨#[]⟩ : ByteArray), .slice none 0 0, .int .i64 0, .int .u64 0, .string (⟨#[]⟩ : ByteArray), .slice none 0 0]) ?_ 4 _ rfl; (with_reducible repeat (first | refine blk_drewN ?_ _ | refine blk_drew ?_ | refine blk_alloc ?_ _)); refine blk_put (cs := #[.int .u64 t199, .int .u64 t200, .slice Ao18 t201.length co18, .int .i64 0, .int .u64 0, .string (⟨#[]⟩ : ByteArray), .slice none 0 0, .int .i64 0, .int .u64 0, .string (⟨#[]⟩ : ByteArray), .slice none 0 0]) ?_ 3 _ rfl; (with_reducible repeat (first | refine blk_drewN ?_ _ | refine blk_drew ?_ | refine blk_alloc ?_ _)); refine blk_put (cs := #[.int .u64 t199, .int .u64 t200, .slice none 0 0, .int .i64 0, .int .u64 0, .string (⟨#[]⟩ : ByteArray), .slice none 0 0, .int .i64 0, .int .u64 0, .string (⟨#[]⟩ : ByteArray), .slice none 0 0]) ?_ 2 _ rfl; (with_reducible repeat (first | refine blk_drewN ?_ _ | refine blk_drew ?_ | refine blk_alloc ?_ _)); refine blk_put (cs := #[.int .u64 t199, .int .u64 0, .slice none 0 0, .int .i64 0, .int .u64 0, .string (⟨#[]⟩ : ByteArray), .slice none 0 0, .int .i64 0, .int .u64 0, .string (⟨#[]⟩ : ByteArray), .slice none 0 0]) ?_ 1 _ rfl; (with_reducible repeat (first | refine blk_drewN ?_ _ | refine blk_drew ?_ | refine blk_alloc ?_ _)); refine blk_put (cs := zS_) ?_ 0 _ rfl; (with_reducible repeat (first | refine blk_drewN ?_ _ | refine blk_drew ?_ | refine blk_alloc ?_ _)); exact BK217.out) hb); replace HB := am (below_step pB hb); clear hb ho22; obtain ⟨Ao23, co23, eo23⟩ := Kd.R_slice HO220.out; subst eo23) | (go_at_call 12; (with_reducible refine (snap_Members.calls k _ _ y218 true _ ?side1 ?side2 A7.out).mono ?_); (case side1 => repeat (first | exact (Kd.R_reads' HO220.out).2.2 | (with_reducible refine Kd.C_alloc ?_ _) | (with_reducible refine Kd.C_drewN ?_ _) | (with_reducible refine Kd.C_drew ?_))); (case side2 => exact (Kd.R_reads' HO220.out).2.1); rintro e w' ⟨rfl, ⟨nd, rfl⟩⟩) | ((with_reducible refine gate_dst (N := 38) rfl ?_); (try (refine gate_guard (by rfl) ?_; dsimp only)); refine Kd.R_lit (Kd.int .i64) _ 3 ?hg (N := 38) ?hd (xs := ([3, 1] : List Int)) (inner := [.int .i64 3, .int .i64 1]) (ok := fun _ => True) (okp := fun _ => True) ?hr ?hp (fun _ hk => hk) trivial (Below.refl _ _) (Nat.le_refl _) (by simp) ?_; (case hd => rfl); (case hg => rfl); (case hr => first | (go_simp; done) | (go_simp; rfl)); (case hp => exact (Reps.one (show Kd.M (Kd.int .i64) _ _ _ 3 [.int .i64 3] from rfl) (Reps.one (show Kd.M (Kd.int .i64) _ _ _ 1 [.int .i64 1] from rfl) (Reps.none _ _)))); intro v223 w24 ho25 hb hg_ hnew_; clear hg_ hnew_; (first | rw [← Ny222.out] at ho25 | (simp only [Int.reduceToNat] at ho25; rw [← Ny222.out] at ho25)); replace HO197 := am (Kd.R_below (pR HO197.out) hb); replace HO209 := am (Kd.V_elder' (pV HO209.out) (Kd.R_base ho25) hb); replace HO215 := am (Kd.V_elder' (pV HO215.out) (Kd.R_base ho25) hb); have HO224 := am (Kd.R_lower (Kd.R_new' (Kd.R_new' (Kd.R_new' ho25 (Kd.R_lt (pR HO194.out))) (Kd.R_lt (pR HO203.out))) (Kd.R_lt (pR HO220.out))) (below_size pB)); replace HO194 := am (Kd.R_elder' (pR HO194.out) (Kd.R_base ho25) hb); replace HO203 := am (Kd.R_elder' (pR HO203.out) (Kd.R_base ho25) hb); replace HO220 := am (Kd.R_elder' (pR HO220.out) (Kd.R_base ho25) hb); replace BK217 := am (pkb BK217.out hb); replace HB := am (below_step pB hb); clear hb ho25; obtain ⟨Ao26, co26, eo26⟩ := Kd.R_slice HO224.out; subst eo26) | (go_at_call 12; (with_reducible refine (snap_Members.calls k _ _ y222 t225 _ ?side1 ?side2 A9.out).mono ?_); (case side1 => repeat (first | exact (Kd.R_reads' HO224.out).2.2 | (with_reducible refine Kd.C_alloc ?_ _) | (with_reducible refine Kd.C_drewN ?_ _) | (with_reducible refine Kd.C_drew ?_))); (case side2 => exact (Kd.R_reads' HO224.out).2.1); rintro e w' ⟨rfl, ⟨nd, rfl⟩⟩))
      go_ret
      exact ⟨pE, pB⟩
     ·replace c8 := Bool.eq_false_iff.mpr c8
      subst c8
      rw [if_neg (show ¬ (false = true) by decide)] at H
      exact absurd H (by simp)
    ·rw [if_neg c6] at H
     exact absurd H (by simp)
   ·rw [if_neg c5] at H
    exact absurd H (by simp)
  ·rw [if_neg c4] at H
   exact absurd H (by simp)
 ·rw [if_neg c3] at H
  exact absurd H (by simp)
mutual
def minstrelref07_Own.l0 : Nat → List (S26) → Int → Int → Int → ByteArray → List (S26) → Option (Int × Int × ByteArray × (List (S26)))
 | 0, _, _, _, _, _, _ => none
 | k + 1, x3, x4, x227000, x227001, x227002, x227003 => if x4 < (x227003.length : Int) then (if 0 ≤ x4 then ((minstrelref07_Own.f k ((rd_T26 x227003 x4).f0) ((rd_T26 x227003 x4).f1) ((rd_T26 x227003 x4).f2) ((rd_T26 x227003 x4).f3)).bind fun bt232 => (if x3.length < 2513169434916 then (minstrelref07_Own.l0 k (x3 ++ [(⟨bt232.1, bt232.2.1, bt232.2.2.1, bt232.2.2.2⟩ : S26)]) (wrap64 (x4 + 1)) x227000 x227001 x227002 x227003) else (none))) else (none)) else (some (x227000, x227001, x227002, x3))
def minstrelref07_Own.f : Nat → Int → Int → ByteArray → List (S26) → Option (Int × Int × ByteArray × (List (S26)))
 | 0, _, _, _, _ => none
 | k + 1, a0_0, a0_1, a0_2, l0_3 => minstrelref07_Own.l0 k (([] : List (S26))) 0 a0_0 a0_1 a0_2 l0_3
end
set_option maxHeartbeats 8000000 in
set_option maxRecDepth 100000 in
theorem minstrelref07_Own.calls (k : Nat) : ∀ (a0_0 : Int) (a0_1 : Int) (a0_2 : ByteArray) (A0_3 : Option Addr) (c0_3 : Nat) (l0_3 : List (S26)) (r1 : Int) (r2 : Int) (r3 : ByteArray) (r4 : List (S26)) (w : World) (hr0_3 : Kd.C k26 w A0_3 l0_3.length l0_3) (hc0_3 : l0_3.length ≤ c0_3) (h : minstrelref07_Own.f k a0_0 a0_1 a0_2 l0_3 = some (r1, r2, r3, r4)),
  Calls Tryd.prog 21 #[.agg #[.int .i64 a0_0, .int .u64 a0_1, .string a0_2, .slice A0_3 l0_3.length c0_3]] w fun e w' => ∃ v3_ : Value, e = .returned (.agg #[.int .i64 r1, .int .u64 r2, .string r3, v3_]) ∧ Kd.R k26 26 w' w.heap.size (fun _ => True) v3_ r4 ∧ Below w.heap.size w w' := by
 induction k using Nat.strongRecOn with
 | _ k ih =>
 intro a0_0 a0_1 a0_2 A0_3 c0_3 l0_3 r1 r2 r3 r4 w hr0_3 hc0_3 h
 cases k with
 | zero => exact absurd h (by simp [minstrelref07_Own.f])
 | succ k =>
 simp only [minstrelref07_Own.f] at h
 have hu26 := Tryd.underlying26
 have HR0_3 := am hr0_3
 have HC0_3 := am hc0_3
 clear hr0_3 hc0_3
 have HB := am (Below.refl w.heap.size w)
 have H : (minstrelref07_Own.l0 k (([] : List (S26))) 0 a0_0 a0_1 a0_2 l0_3) = some (r1, r2, r3, r4) := h
 clear h
 obtain ⟨y228, hy228⟩ : ∃ y_ : List (S26), y_ = (([] : List (S26))) := ⟨_, rfl⟩
 replace H : (minstrelref07_Own.l0 k y228 0 a0_0 a0_1 a0_2 l0_3) = some (r1, r2, r3, r4) := by first | (rw [hy228]; with_reducible exact H) | (have H2_ := (Option.bind_some _ _).symm.trans H; rw [hy228]; with_reducible exact H2_) | (have H2_ := (Option.bind_some _ _).symm.trans H; with_reducible exact H2_) | with_reducible exact H | (rw [hy228]; exact H) | exact H
 have Ny228 := am hy228
 clear hy228
 have H' := am H
 clear H
 go_enter Tryd.func21, Tryd.ntmps21
 go_wp2_with (first | ((with_reducible refine gate_dst (N := 1) rfl ?_); refine box_event ?hg (N := 1) ?hd (cs := #[.int .i64 a0_0, .int .u64 a0_1, .string a0_2, .slice A0_3 l0_3.length c0_3]) (t := 26) ?hr ?_; (case hd => rfl); (case hg => rfl); (case hr => first | (go_simp; done) | (go_simp; rfl)); intro gb226 hg w2 hbox hb; have BK226 := am (hbox); have GW226 := am ((by rw [hg]; exact (below_size pB) : w.heap.size ≤ gb226)); have GE226 := am ((by rw [hg]; exact (below_size pB) : w.heap.size ≤ gb226)); replace HB := am (below_step pB hb); clear hb hbox hg) | ((with_reducible refine gate_dst (N := 2) rfl ?_); refine box_event ?hg (N := 2) ?hd (cs := #[.int .i64 0, .int .u64 0, .string (⟨#[]⟩ : ByteArray), .slice none 0 0]) (t := 26) ?hr ?_; (case hd => rfl); (case hg => rfl); (case hr => first | (go_simp; done) | (go_simp; rfl)); intro gb227 hg w3 hbox hb; have BK227 := am (hbox); have GW227 := am ((by rw [hg]; exact (below_size pB) : w.heap.size ≤ gb227)); have GE227 := am ((by rw [hg]; exact (below_size pB) : w.heap.size ≤ gb227)); have NB226_227 := am ((by rw [hg]; exact Nat.ne_of_lt (pkl BK226.out) : gb226 ≠ gb227)); have NB227_226 := am ((by rw [hg]; exact Nat.ne_of_gt (pkl BK226.out) : gb227 ≠ gb226)); replace BK226 := am (pkb BK226.out hb); replace HB := am (below_step pB hb); clear hb hbox hg) | ((with_reducible refine gate_dst (N := 5) rfl ?_); refine Kd.R_lit k26 _ 26 ?hg (N := 5) ?hd (xs := ([] : List (S26))) (inner := []) (ok := fun _ => True) (okp := fun _ => True) ?hr ?hp (fun _ hk => hk) trivial (Below.refl _ _) (Nat.le_refl _) (by simp) ?_; (case hd => rfl); (case hg => rfl); (case hr => first | (go_simp; done) | (go_simp; rfl)); (case hp => exact (Reps.none _ _)); intro v229 w4 ho5 hb hg_ hnew_; clear hg_ hnew_; (first | rw [← Ny228.out] at ho5 | (simp only [Int.reduceToNat] at ho5; rw [← Ny228.out] at ho5)); have HO230 := am (Kd.R_lower (Kd.R_newB (Kd.R_newB ho5 (g := gb226) (o := .cells #[.int .i64 a0_0, .int .u64 a0_1, .string a0_2, .slice A0_3 l0_3.length c0_3] 26 (0, 0)) (pK BK226.out)) (g := gb227) (o := .cells #[.int .i64 0, .int .u64 0, .string (⟨#[]⟩ : ByteArray), .slice none 0 0] 26 (0, 0)) (pK BK227.out)) (below_size pB)); replace BK226 := am (pkb BK226.out hb); replace BK227 := am (pkb BK227.out hb); replace HB := am (below_step pB hb); clear hb ho5))
 go_loopg [3, 4] k (fun kq v3 v4 w' => ∃ (x3_1 : List (S26)) (x4_1 : Int), v4 = .int .i64 x4_1 ∧ Aside0 (minstrelref07_Own.l0 kq x3_1 x4_1 a0_0 a0_1 a0_2 l0_3 = some (r1, r2, r3, r4)) ∧ Aside0 (kq ≤ k) ∧ Aside0 (Kd.R k26 26 w' w.heap.size (fun k_ => k_ ≠ gb226 ∧ k_ ≠ gb227) v3 x3_1) ∧ Aside0 (w'.heap[gb226]? = some (.cells #[.int .i64 a0_0, .int .u64 a0_1, .string a0_2, (.slice A0_3 l0_3.length c0_3)] 26 (0, 0))) ∧ Aside0 (w'.heap[gb227]? = some (.cells #[.int .i64 0, .int .u64 0, .string (⟨#[]⟩ : ByteArray), (.slice none 0 0)] 26 (0, 0))) ∧ Aside0 (Below w.heap.size w w'))
 case atStart => exact ⟨(y228), (0), (by first | rfl | (simp; done) | (simp [*]; done)), H', ⟨Nat.le_refl _⟩, ⟨by (with_reducible repeat (first | apply Kd.R_alloc | apply Kd.R_drewN | apply Kd.R_drew)); exact Kd.R_mono HO230.out (fun _ hk => ⟨hk.1.2, hk.2⟩)⟩, ⟨by (with_reducible repeat (first | refine blk_drewN ?_ _ | refine blk_drew ?_ | refine blk_alloc ?_ _)); exact BK226.out⟩, ⟨by (with_reducible repeat (first | refine blk_drewN ?_ _ | refine blk_drew ?_ | refine blk_alloc ?_ _)); exact BK227.out⟩, ⟨pB⟩⟩
 case round =>
  clear H'
  try clear c2
  try clear p2
  obtain ⟨x3_1, x4_1, rfl, HA, HK1, HO_3, BK226, BK227, HB⟩ := hrel
  cases gk with
  | zero => exact absurd HA.out (by simp [minstrelref07_Own.l0])
  | succ k1 =>
   have H := HA.out
   clear HA
   simp only [minstrelref07_Own.l0] at H
   by_cases c6 : x4_1 < (l0_3.length : Int)
   ·rw [if_pos c6] at H
    have c6b0 : decide (x4_1 < (l0_3.length : Int)) = true := decide_eq_true c6
    clear c6
    by_cases c7 : 0 ≤ x4_1
    ·rw [if_pos c7] at H
     have c7b0 : decide (0 ≤ x4_1) = true := decide_eq_true c7
     clear c7
     replace H := Option.bind_eq_some_iff.mp H
     obtain ⟨⟨t232, t233, t234, t235⟩, A80, H⟩ := H
     try dsimp only at H
     have A8 := am A80
     clear A80
     by_cases c9 : x3_1.length < 2513169434916
     ·rw [if_pos c9] at H
      have LMc9 := am c9
      clear c9
      obtain ⟨y238, hy238⟩ : ∃ y_ : List (S26), y_ = (x3_1 ++ [(⟨t232, t233, t234, t235⟩ : S26)]) := ⟨_, rfl⟩
      replace H : (minstrelref07_Own.l0 k1 y238 (wrap64 (x4_1 + 1)) a0_0 a0_1 a0_2 l0_3) = some (r1, r2, r3, r4) := by first | (rw [hy238]; with_reducible exact H) | (have H2_ := (Option.bind_some _ _).symm.trans H; rw [hy238]; with_reducible exact H2_) | (have H2_ := (Option.bind_some _ _).symm.trans H; with_reducible exact H2_) | with_reducible exact H | (rw [hy238]; exact H) | exact H
      have Ny238 := am hy238
      clear hy238
      have H' := am H
      clear H
      have hnb10 := NB226_227.out
      have hnc10 := NB227_226.out
      have q11 := cf4 BK226.out
      have p231 : 0 ≤ (x4_1 : Int) := pD
      have q231 : x4_1 < (l0_3.length : Int) := pD
      obtain ⟨ad231, A231_3, c231_3, e231, hx231_0, hx231_1, hx231_2, hx231_3, hl231_3, hi231_3⟩ := at_T26 HR0_3.out x4_1 p231 q231
      cases e231
      replace hx231_0 := (HB.out.cell (World.block_lt_of_cell? w _ hx231_0)).trans hx231_0
      replace hx231_1 := (HB.out.cell (World.block_lt_of_cell? w _ hx231_1)).trans hx231_1
      replace hx231_2 := (HB.out.cell (World.block_lt_of_cell? w _ hx231_2)).trans hx231_2
      replace hx231_3 := (HB.out.cell (World.block_lt_of_cell? w _ hx231_3)).trans hx231_3
      have HR231_3 := am hi231_3
      have HC231_3 := am hl231_3
      clear hi231_3 hl231_3
      replace p231 := eq_true p231
      replace q231 := eq_true q231
      go_wp2_with (first | ((with_reducible refine gate_callee (f := 21) rfl ?_); refine goesL_ (some 19) rfl rfl Tryd.func21 (by kernel_rfl) rfl #[.agg #[.int .i64 ((rd_T26 l0_3 x4_1).f0), .int .u64 ((rd_T26 l0_3 x4_1).f1), .string ((rd_T26 l0_3 x4_1).f2), .slice A231_3 ((rd_T26 l0_3 x4_1).f3).length c231_3]] rfl pM ?_; (with_reducible refine (ih k1 (by have := HK1.out; omega) ((rd_T26 l0_3 x4_1).f0) ((rd_T26 l0_3 x4_1).f1) ((rd_T26 l0_3 x4_1).f2) _ _ ((rd_T26 l0_3 x4_1).f3) t232 t233 t234 t235 _ ?side1 ?side2 A8.out).mono ?_); (case side1 => exact pC (Kd.C_below HR231_3.out HB.out)); (case side2 => exact HC231_3.out); rintro e w12 ⟨v236, rfl, ho0, hb⟩; refine ⟨_, rfl, ?_⟩; have HO237 := am (Kd.R_lower (Kd.R_newB (Kd.R_newB (Kd.R_new' ho0 (Kd.R_lt (pR HO_3.out))) (g := gb226) (o := .cells #[.int .i64 a0_0, .int .u64 a0_1, .string a0_2, .slice (some ad231) l0_3.length c0_3] 26 (0, 0)) (pK BK226.out)) (g := gb227) (o := .cells #[.int .i64 0, .int .u64 0, .string (⟨#[]⟩ : ByteArray), .slice none 0 0] 26 (0, 0)) (pK BK227.out)) (below_size pB)); replace HO_3 := am (Kd.R_elder' (pR HO_3.out) (Kd.R_base ho0) hb); replace BK226 := am (pkb BK226.out hb); replace BK227 := am (pkb BK227.out hb); replace HB := am (below_step pB hb); (try clear hb); (try clear hb2); (try clear hk); (try clear hi); (try clear ho0); obtain ⟨Ao14, co14, eo14⟩ := Kd.R_slice HO237.out; subst eo14) | ((with_reducible refine gate_builtin (b := .append) (xs := #[.tmp 13, .tmp 20]) rfl ?_); at_builtin; refine Kd.R_append k26 (w0 := w) w.heap.size rfl (.tmp 13) (.tmp 20) 24 26 (.agg #[(.int .i64 0), (.int .u64 0), (.string ⟨#[]⟩), (.slice none 0 0)]) 56 rfl Tryd.underlying24 info26 rfl (by decide) (by omega) u3 x3_1 (⟨t232, t233, t234, t235⟩ : S26) [.int .i64 t232, .int .u64 t233, .string t234, .slice Ao14 t235.length co14] (fun k_ => k_ ≠ gb226 ∧ k_ ≠ gb227) (fun k_ => ((fun k_ => k_ ≠ gb226 ∧ k_ ≠ gb227)) k_ ∧ some k_ ≠ (u3 : Value).ownBlock) rfl rfl ?aP (fun _ hk => hk) ?aF ?aO ?aB ?aS ?aL ?_; (case aP => exact k26_mkM _ _ _ (⟨t232, t233, t234, t235⟩ : S26) (Kd.R_mono (HO237.out) (fun k_ hk => ⟨⟨hk.1.2, hk.2⟩, hk.1.1.2⟩))); (case aB => exact pB); (case aF => exact (fun k_ hk => ⟨Kd.freshB (g := gb226) (o := .cells #[.int .i64 a0_0, .int .u64 a0_1, .string a0_2, .slice (some ad231) l0_3.length c0_3] 26 (0, 0)) (pK BK226.out) k_ hk, Kd.freshB (g := gb227) (o := .cells #[.int .i64 0, .int .u64 0, .string (⟨#[]⟩ : ByteArray), .slice none 0 0] 26 (0, 0)) (pK BK227.out) k_ hk⟩)); (case aO => exact (by (with_reducible repeat (first | apply Kd.R_alloc | apply Kd.R_drewN | apply Kd.R_drew)); exact Kd.R_mono HO_3.out (fun _ hk => ⟨hk.1.1, hk.1.2⟩))); (case aS => exact (below_size pB)); (case aL => have := LMc9.out; omega); intro v239 w13 ho hb hg hat; rw [← Ny238.out] at ho; replace BK226 := am (blk_grown (g := gb226) (o := .cells #[.int .i64 a0_0, .int .u64 a0_1, .string a0_2, .slice (some ad231) l0_3.length c0_3] 26 (0, 0)) (pK BK226.out) hg (Kd.R_away HO_3.out (fun _ hk => hk.1.1))); replace BK227 := am (blk_grown (g := gb227) (o := .cells #[.int .i64 0, .int .u64 0, .string (⟨#[]⟩ : ByteArray), .slice none 0 0] 26 (0, 0)) (pK BK227.out) hg (Kd.R_away HO_3.out (fun _ hk => hk.1.2))); replace HB := am (hb); have HO240 := am (ho); clear HO_3 HO237; clear ho hb hg hat))
      go_roundg k1
      case measure => have := HK1.out; omega
      case rel => exact ⟨(y238), (wrap64 (x4_1 + 1)), (by first | rfl | (simp; done) | (simp [*]; done)), H', ⟨by have := HK1.out; omega⟩, ⟨by (with_reducible repeat (first | apply Kd.R_alloc | apply Kd.R_drewN | apply Kd.R_drew)); exact HO240.out⟩, ⟨by (with_reducible repeat (first | refine blk_drewN ?_ _ | refine blk_drew ?_ | refine blk_alloc ?_ _)); exact BK226.out⟩, ⟨by (with_reducible repeat (first | refine blk_drewN ?_ _ | refine blk_drew ?_ | refine blk_alloc ?_ _)); exact BK227.out⟩, ⟨pB⟩⟩
     ·rw [if_neg c9] at H
      exact absurd H (by simp)
    ·rw [if_neg c7] at H
     exact absurd H (by simp)
   ·rw [if_neg c6] at H
    have c6b0 : decide (x4_1 < (l0_3.length : Int)) = false := decide_eq_false c6
    clear c6
    simp only [Option.some.injEq, Prod.mk.injEq] at H
    obtain ⟨rfl, rfl, rfl, rfl⟩ := H
    have hnb15 := NB226_227.out
    have hnc15 := NB227_226.out
    have q16 := cf4 BK226.out
    obtain ⟨Ao17, co17, eo17⟩ := Kd.R_slice HO_3.out
    subst eo17
    have q18 := cf4 BK227.out
    go_wp2
    refine bodyPost_ret (results_cell_row rfl _ _ gb227 26 #[.int .i64 a0_0, .int .u64 a0_1, .string a0_2, .slice Ao17 x3_1.length co17] (0, 0) _ rfl (by (with_reducible repeat (first | refine blk_drewN ?_ _ | refine blk_drew ?_ | refine blk_alloc ?_ _)); refine blk_put (cs := #[.int .i64 a0_0, .int .u64 a0_1, .string a0_2, .slice none 0 0]) ?_ 3 _ rfl; (with_reducible repeat (first | refine blk_drewN ?_ _ | refine blk_drew ?_ | refine blk_alloc ?_ _)); refine blk_put (cs := #[.int .i64 a0_0, .int .u64 a0_1, .string (⟨#[]⟩ : ByteArray), .slice none 0 0]) ?_ 2 _ rfl; (with_reducible repeat (first | refine blk_drewN ?_ _ | refine blk_drew ?_ | refine blk_alloc ?_ _)); refine blk_put (cs := #[.int .i64 a0_0, .int .u64 0, .string (⟨#[]⟩ : ByteArray), .slice none 0 0]) ?_ 1 _ rfl; (with_reducible repeat (first | refine blk_drewN ?_ _ | refine blk_drew ?_ | refine blk_alloc ?_ _)); refine blk_put (cs := #[.int .i64 0, .int .u64 0, .string (⟨#[]⟩ : ByteArray), .slice none 0 0]) ?_ 0 _ rfl; (with_reducible repeat (first | refine blk_drewN ?_ _ | refine blk_drew ?_ | refine blk_alloc ?_ _)); refine blk_far ?_ NB227_226.out _; (with_reducible repeat (first | refine blk_drewN ?_ _ | refine blk_drew ?_ | refine blk_alloc ?_ _)); exact BK227.out) Tryd.underlying26 rfl (by kernel_rfl)) rfl ?_
    exact ⟨_, pE, by (with_reducible repeat (first | apply Kd.R_alloc | apply Kd.R_drewN | apply Kd.R_drew)); exact Kd.R_mono (Kd.R_far (p := ⟨gb227, 3, none⟩) (Kd.R_far (p := ⟨gb227, 2, none⟩) (Kd.R_far (p := ⟨gb227, 1, none⟩) (Kd.R_far (p := ⟨gb227, 0, none⟩) (Kd.R_far (p := ⟨gb226, 3, none⟩) (Kd.R_mono (Kd.R_mono HO_3.out (fun k_ hk => (⟨hk, hk.1⟩ : _ ∧ k_ ≠ gb226))) (fun k_ hk => (⟨hk, hk.1.2⟩ : _ ∧ k_ ≠ gb227))) (fun _ hk => hk.1.2) (.slice Ao17 x3_1.length co17)) (fun _ hk => hk.2) (.int .i64 a0_0)) (fun _ hk => hk.2) (.int .u64 a0_1)) (fun _ hk => hk.2) (.string a0_2)) (fun _ hk => hk.2) (.slice Ao17 x3_1.length co17)) (fun _ hk => trivial), pB⟩
def minstrelref19_Members.l0 : Nat → List Int → Int → Option (Bool)
 | 0, _, _ => none
 | k + 1, x0, x3 => if x3 < (x0.length : Int) then (if 0 ≤ x3 then (if (rd x0 x3) < 1 then (some false) else (if (rd x0 x3) > 64 then (some false) else (if x3 > 0 then (if 0 ≤ (wrap64 (x3 - 1)) then (if (wrap64 (x3 - 1)) < (x0.length : Int) then (if (rd x0 x3) ≤ (rd x0 (wrap64 (x3 - 1))) then (some false) else (minstrelref19_Members.l0 k x0 (wrap64 (x3 + 1)))) else (none)) else (none)) else (minstrelref19_Members.l0 k x0 (wrap64 (x3 + 1)))))) else (none)) else (some (decide ((x0.length : Int) > 0)))
def minstrelref19_Members.f (k : Nat) (l0 : List Int) : Option (Bool) := minstrelref19_Members.l0 k l0 0
set_option maxHeartbeats 8000000 in
set_option maxRecDepth 100000 in
theorem minstrelref19_Members.calls (k : Nat) (A0 : Option Addr) (c0 : Nat) (l0 : List Int) (r : Bool) (w : World) (hr0 : Kd.C (Kd.int .i64) w A0 l0.length l0) (hc0 : l0.length ≤ c0) (h : minstrelref19_Members.f k l0 = some r) :
  Calls Tryd.prog 13 #[.slice A0 l0.length c0] w fun e w' => e = .returned (.bool r) ∧ Drawn0 w w' := by
 have HR0 := am hr0
 have HC0 := am hc0
 clear hr0 hc0
 have H : (minstrelref19_Members.l0 k l0 0) = some r := h
 clear h
 have H' := am H
 clear H
 go_enter Tryd.func13, Tryd.ntmps13
 go_wp2
 repeat (go_quiet (fail); try go_wp2)
 go_loopg [3] k (fun kq v3 w' => ∃ (x3_1 : Int), v3 = .int .i64 x3_1 ∧ Aside0 (minstrelref19_Members.l0 kq l0 x3_1 = some r) ∧ Aside0 (kq ≤ k) ∧ Drawn0 w w')
 case atStart => exact ⟨(0), (by first | rfl | (simp; done) | (simp [*]; done)), H', ⟨Nat.le_refl _⟩, by repeat (first | exact Drawn0.refl _ | apply Drawn0.step)⟩
 case round =>
  clear H'
  try clear c1
  obtain ⟨x3_1, rfl, HA, HK1, ⟨m1, rfl⟩⟩ := hrel
  cases gk with
  | zero => exact absurd HA.out (by simp [minstrelref19_Members.l0])
  | succ k1 =>
   have H := HA.out
   clear HA
   simp only [minstrelref19_Members.l0] at H
   by_cases c2 : x3_1 < (l0.length : Int)
   ·rw [if_pos c2] at H
    have c2b0 : decide (x3_1 < (l0.length : Int)) = true := decide_eq_true c2
    clear c2
    by_cases c3 : 0 ≤ x3_1
    ·rw [if_pos c3] at H
     have c3b0 : decide (0 ≤ x3_1) = true := decide_eq_true c3
     clear c3
     by_cases c4 : (rd l0 x3_1) < 1
     ·rw [if_pos c4] at H
      have c4b0 : decide ((rd l0 x3_1) < 1) = true := decide_eq_true c4
      clear c4
      obtain rfl := Option.some.inj H
      have p261 : 0 ≤ (x3_1 : Int) := pD
      have q261 : x3_1 < (l0.length : Int) := pD
      obtain ⟨ad261, e261, hx261_0⟩ := Kd.at_int HR0.out x3_1 p261 q261
      cases e261
      replace p261 := eq_true p261
      replace q261 := eq_true q261
      go_wp2
      repeat (go_quiet (fail); try go_wp2)
      go_ret
      exact ⟨by first | rfl | (simp; done) | (simp [*]; done), by repeat (first | exact Drawn0.refl _ | apply Drawn0.step)⟩
     ·rw [if_neg c4] at H
      have c4b0 : decide ((rd l0 x3_1) < 1) = false := decide_eq_false c4
      clear c4
      by_cases c5 : (rd l0 x3_1) > 64
      ·rw [if_pos c5] at H
       have c5b0 : decide (64 < (rd l0 x3_1)) = true := decide_eq_true c5
       clear c5
       obtain rfl := Option.some.inj H
       have p261 : 0 ≤ (x3_1 : Int) := pD
       have q261 : x3_1 < (l0.length : Int) := pD
       obtain ⟨ad261, e261, hx261_0⟩ := Kd.at_int HR0.out x3_1 p261 q261
       cases e261
       replace p261 := eq_true p261
       replace q261 := eq_true q261
       have p262 : 0 ≤ (x3_1 : Int) := pD
       have q262 : x3_1 < (l0.length : Int) := pD
       obtain ⟨ad262, e262, hx262_0⟩ := Kd.at_int HR0.out x3_1 p262 q262
       obtain rfl : ad261 = ad262 := (by injection e262)
       replace p262 := eq_true p262
       replace q262 := eq_true q262
       go_wp2
       repeat (go_quiet (fail); try go_wp2)
       go_ret
       exact ⟨by first | rfl | (simp; done) | (simp [*]; done), by repeat (first | exact Drawn0.refl _ | apply Drawn0.step)⟩
      ·rw [if_neg c5] at H
       have c5b0 : decide (64 < (rd l0 x3_1)) = false := decide_eq_false c5
       clear c5
       by_cases c6 : x3_1 > 0
       ·rw [if_pos c6] at H
        have c6b0 : decide (0 < x3_1) = true := decide_eq_true c6
        clear c6
        obtain ⟨ji7, hji7⟩ : ∃ j_ : Int, (wrap64 (x3_1 - 1)) = j_ := ⟨_, rfl⟩
        replace H : (if 0 ≤ (ji7) then (if (ji7) < (l0.length : Int) then (if (rd l0 x3_1) ≤ (rd l0 (ji7)) then (some false) else (minstrelref19_Members.l0 k1 l0 (wrap64 (x3_1 + 1)))) else (none)) else (none)) = some r := by first | (rw [hji7] at H; exact H) | (simp only [hji7] at H ⊢; exact H)
        have hji7w : (IntKind.i64.wrap (x3_1 - 1)) = ji7 := (i64_w _).trans hji7
        by_cases c8 : 0 ≤ (ji7)
        ·rw [if_pos c8] at H
         have c8b0 : decide (0 ≤ (ji7)) = true := decide_eq_true c8
         clear c8
         by_cases c9 : (ji7) < (l0.length : Int)
         ·rw [if_pos c9] at H
          have c9b0 : decide ((ji7) < (l0.length : Int)) = true := decide_eq_true c9
          clear c9
          by_cases c10 : (rd l0 x3_1) ≤ (rd l0 (ji7))
          ·rw [if_pos c10] at H
           have c10b0 : decide ((rd l0 x3_1) ≤ (rd l0 (ji7))) = true := decide_eq_true c10
           clear c10
           obtain rfl := Option.some.inj H
           have p261 : 0 ≤ (x3_1 : Int) := pD
           have q261 : x3_1 < (l0.length : Int) := pD
           obtain ⟨ad261, e261, hx261_0⟩ := Kd.at_int HR0.out x3_1 p261 q261
           cases e261
           replace p261 := eq_true p261
           replace q261 := eq_true q261
           have p262 : 0 ≤ (x3_1 : Int) := pD
           have q262 : x3_1 < (l0.length : Int) := pD
           obtain ⟨ad262, e262, hx262_0⟩ := Kd.at_int HR0.out x3_1 p262 q262
           obtain rfl : ad261 = ad262 := (by injection e262)
           replace p262 := eq_true p262
           replace q262 := eq_true q262
           have p263 : 0 ≤ (x3_1 : Int) := pD
           have q263 : x3_1 < (l0.length : Int) := pD
           obtain ⟨ad263, e263, hx263_0⟩ := Kd.at_int HR0.out x3_1 p263 q263
           obtain rfl : ad261 = ad263 := (by injection e263)
           replace p263 := eq_true p263
           replace q263 := eq_true q263
           have p264 : 0 ≤ ((ji7) : Int) := pD
           have q264 : (ji7) < (l0.length : Int) := pD
           obtain ⟨ad264, e264, hx264_0⟩ := Kd.at_int HR0.out (ji7) p264 q264
           obtain rfl : ad261 = ad264 := (by injection e264)
           replace p264 := eq_true p264
           replace q264 := eq_true q264
           go_wp2
           repeat (go_quiet (fail); try go_wp2)
           go_ret
           exact ⟨by first | rfl | (simp; done) | (simp only [← hji7] <;> (first | rfl | simp)) | (simp [*]; done), by repeat (first | exact Drawn0.refl _ | apply Drawn0.step)⟩
          ·rw [if_neg c10] at H
           have c10b0 : decide ((rd l0 x3_1) ≤ (rd l0 (ji7))) = false := decide_eq_false c10
           clear c10
           have H' := am H
           clear H
           have p261 : 0 ≤ (x3_1 : Int) := pD
           have q261 : x3_1 < (l0.length : Int) := pD
           obtain ⟨ad261, e261, hx261_0⟩ := Kd.at_int HR0.out x3_1 p261 q261
           cases e261
           replace p261 := eq_true p261
           replace q261 := eq_true q261
           have p262 : 0 ≤ (x3_1 : Int) := pD
           have q262 : x3_1 < (l0.length : Int) := pD
           obtain ⟨ad262, e262, hx262_0⟩ := Kd.at_int HR0.out x3_1 p262 q262
           obtain rfl : ad261 = ad262 := (by injection e262)
           replace p262 := eq_true p262
           replace q262 := eq_true q262
           have p263 : 0 ≤ (x3_1 : Int) := pD
           have q263 : x3_1 < (l0.length : Int) := pD
           obtain ⟨ad263, e263, hx263_0⟩ := Kd.at_int HR0.out x3_1 p263 q263
           obtain rfl : ad261 = ad263 := (by injection e263)
           replace p263 := eq_true p263
           replace q263 := eq_true q263
           have p264 : 0 ≤ ((ji7) : Int) := pD
           have q264 : (ji7) < (l0.length : Int) := pD
           obtain ⟨ad264, e264, hx264_0⟩ := Kd.at_int HR0.out (ji7) p264 q264
           obtain rfl : ad261 = ad264 := (by injection e264)
           replace p264 := eq_true p264
           replace q264 := eq_true q264
           go_wp2
           repeat (go_quiet (fail); try go_wp2)
           go_roundg k1
           case measure => have := HK1.out; omega
           case rel => exact ⟨(wrap64 (x3_1 + 1)), (by first | rfl | (simp; done) | (simp [*]; done)), H', ⟨by have := HK1.out; omega⟩, by repeat (first | exact Drawn0.refl _ | apply Drawn0.step)⟩
         ·rw [if_neg c9] at H
          exact absurd H (by simp)
        ·rw [if_neg c8] at H
         exact absurd H (by simp)
       ·rw [if_neg c6] at H
        have c6b0 : decide (0 < x3_1) = false := decide_eq_false c6
        clear c6
        have H' := am H
        clear H
        have p261 : 0 ≤ (x3_1 : Int) := pD
        have q261 : x3_1 < (l0.length : Int) := pD
        obtain ⟨ad261, e261, hx261_0⟩ := Kd.at_int HR0.out x3_1 p261 q261
        cases e261
        replace p261 := eq_true p261
        replace q261 := eq_true q261
        have p262 : 0 ≤ (x3_1 : Int) := pD
        have q262 : x3_1 < (l0.length : Int) := pD
        obtain ⟨ad262, e262, hx262_0⟩ := Kd.at_int HR0.out x3_1 p262 q262
        obtain rfl : ad261 = ad262 := (by injection e262)
        replace p262 := eq_true p262
        replace q262 := eq_true q262
        go_wp2
        repeat (go_quiet (fail); try go_wp2)
        go_roundg k1
        case measure => have := HK1.out; omega
        case rel => exact ⟨(wrap64 (x3_1 + 1)), (by first | rfl | (simp; done) | (simp [*]; done)), H', ⟨by have := HK1.out; omega⟩, by repeat (first | exact Drawn0.refl _ | apply Drawn0.step)⟩
    ·rw [if_neg c3] at H
     exact absurd H (by simp)
   ·rw [if_neg c2] at H
    have c2b0 : decide (x3_1 < (l0.length : Int)) = false := decide_eq_false c2
    clear c2
    obtain rfl := Option.some.inj H
    go_wp2
    repeat (go_quiet (fail); try go_wp2)
    go_ret
    exact ⟨by first | rfl | (simp; done) | (simp [*]; done), by repeat (first | exact Drawn0.refl _ | apply Drawn0.step)⟩
end Go.Proofs.YtlkaffbgekbcfaaDoor.Pr
end
