/- A part of the proof of the law that RowSnapWhole shows: lemmas, and contracts of the calls that it reaches. -/
import Derived.Test.YtlkaffbgekbcfaaDoorProg
import Derived.Below
import Derived.Deep.Draws
import Derived.Deep.AppendLies
import Derived.Maps.AppendAt
import Derived.OwnWalk
import Derived.Laws.BytesArg
import Derived.Laws.MakeOwn
import Derived.Laws.OwnMore
import Derived.Deep.OwnRows
import Derived.Tactics
import Derived.Lib.ConvBytes
import Derived.Laws.Slices
import Derived.WalkKit
import Derived.KernelRfl
import Derived.RowKit3
import Derived.Deep.LoopGhost
import Derived.Deep.QuietTactic
import Derived.BigQuiet
import Derived.WideLaws
import Derived.Deep.DeepCutAuto
import Derived.Deep.CutBlock
import Derived.Deep.RegionHeld3
import Derived.Laws.Rows
import Derived.Lib.AppendStr
import Derived.ArgAppend
import Derived.Laws.IdiomCopy
import Derived.OrdersHeld
import Derived.Laws.BitsLemmas
import Derived.RowKit
import Derived.Test.YtlkaffbgekbcfaaDoorZB0
import Derived.Test.YtlkaffbgekbcfaaDoorZB1
import Derived.Test.YtlkaffbgekbcfaaDoorZB2
import Derived.Laws.Bits64b
import Derived.ChangeArms
import Derived.OpenShut
section
namespace Go.Proofs.YtlkaffbgekbcfaaDoor.Pr
open Go.RowKit Go.Proofs.YtlkaffbgekbcfaaDoorW.PrintWords Go.Proofs.YtlkaffbgekbcfaaDoorW.PrintLast Go.Proofs.YtlkaffbgekbcfaaDoorW.PrintMore
attribute [local go_sem] max2_int min2_int max_two min_two max_three min_three max_four min_four
set_option linter.unusedVariables false
set_option linter.unusedSimpArgs false
def minstrellaw19_lives.f (k : Nat)  : Option (Bool) := (snap_Save.f k 5 0 (([1, 3] : List Int)) 0 0 (⟨#[]⟩ : ByteArray) ([] : List (S26)) 0 0 (⟨#[]⟩ : ByteArray) ([] : List (S26))).bind fun bt195 => ((snap_Load.f k bt195.1).bind fun bt199 => (if bt195.2 = 0 then (if bt199.2.2.2.2.2.2.2.2.2.2.2 = 0 then (if bt199.1 = 5 then (if (bt199.2.2.1.length : Int) = 2 then ((snap_Members.f k (([1, 3] : List Int))).bind fun t221 => (if t221 = true then ((snap_Members.f k (([3, 1] : List Int))).bind fun t225 => (some (!t225))) else (none))) else (none)) else (none)) else (none)) else (none)))
theorem minstrellaw19_lives.mono : ∀ k, LeO (minstrellaw19_lives.f k ) (minstrellaw19_lives.f (k + 1) ) := by
 intro  k
 unfold minstrellaw19_lives.f
 repeat' first
   | (with_reducible exact snap_Load.mono _ _)
   | (with_reducible exact snap_Members.mono _ _)
   | (with_reducible exact snap_Save.mono _ _ _ _ _ _ _ _ _ _ _ _)
   | (with_reducible exact LeO.refl _)
   | (with_reducible exact LeO.none _)
   | (with_reducible refine LeO.ite ?_ ?_)
   | (with_reducible refine LeO.bind ?_ (fun _ => ?_))
   | exact snap_Load.mono _ _
   | exact snap_Members.mono _ _
   | exact snap_Save.mono _ _ _ _ _ _ _ _ _ _ _ _
   | exact LeO.none _
   | refine LeO.ite ?_ ?_
   | refine LeO.bind ?_ (fun _ => ?_)
set_option maxHeartbeats 8000000 in
set_option maxRecDepth 100000 in
theorem minstrellaw19_lives.calls (k : Nat)  (r : Bool) (w : World) (hG : QuarterLaid w) (h : minstrellaw19_lives.f k  = some r) :
  Calls Tryd.prog 8 #[] w fun e w' => e = .returned (.bool r) ∧ Below w.heap.size w w' := by
 have hu28 := Tryd.underlying28
 have HG := Aside0.mk hG
 clear hG
 have HB := Aside0.mk (Below.refl w.heap.size w)
 have H : ((snap_Save.f k 5 0 (([1, 3] : List Int)) 0 0 (⟨#[]⟩ : ByteArray) ([] : List (S26)) 0 0 (⟨#[]⟩ : ByteArray) ([] : List (S26))).bind fun bt195 => ((snap_Load.f k bt195.1).bind fun bt199 => (if bt195.2 = 0 then (if bt199.2.2.2.2.2.2.2.2.2.2.2 = 0 then (if bt199.1 = 5 then (if (bt199.2.2.1.length : Int) = 2 then ((snap_Members.f k (([1, 3] : List Int))).bind fun t221 => (if t221 = true then ((snap_Members.f k (([3, 1] : List Int))).bind fun t225 => (some (!t225))) else (none))) else (none)) else (none)) else (none)) else (none)))) = some r := h
 clear h
 obtain ⟨y192, hy192⟩ : ∃ y_ : List Int, y_ = (([1, 3] : List Int)) := ⟨_, rfl⟩
 replace H : ((snap_Save.f k 5 0 y192 0 0 (⟨#[]⟩ : ByteArray) ([] : List (S26)) 0 0 (⟨#[]⟩ : ByteArray) ([] : List (S26))).bind fun bt195 => ((snap_Load.f k bt195.1).bind fun bt199 => (if bt195.2 = 0 then (if bt199.2.2.2.2.2.2.2.2.2.2.2 = 0 then (if bt199.1 = 5 then (if (bt199.2.2.1.length : Int) = 2 then ((snap_Members.f k (([1, 3] : List Int))).bind fun t221 => (if t221 = true then ((snap_Members.f k (([3, 1] : List Int))).bind fun t225 => (some (!t225))) else (none))) else (none)) else (none)) else (none)) else (none)))) = some r := by first | (rw [hy192]; with_reducible exact H) | (have H2_ := (Option.bind_some _ _).symm.trans H; rw [hy192]; with_reducible exact H2_) | (have H2_ := (Option.bind_some _ _).symm.trans H; with_reducible exact H2_) | with_reducible exact H | (rw [hy192]; exact H) | exact H
 have Ny192 := Aside0.mk hy192
 clear hy192
 replace H := Option.bind_eq_some_iff.mp H
 obtain ⟨⟨t195, t198⟩, A10, H⟩ := H
 replace H : ((snap_Load.f k t195).bind fun bt199 => (if t198 = 0 then (if bt199.2.2.2.2.2.2.2.2.2.2.2 = 0 then (if bt199.1 = 5 then (if (bt199.2.2.1.length : Int) = 2 then ((snap_Members.f k (([1, 3] : List Int))).bind fun t221 => (if t221 = true then ((snap_Members.f k (([3, 1] : List Int))).bind fun t225 => (some (!t225))) else (none))) else (none)) else (none)) else (none)) else (none))) = some r := H
 have A1 := Aside0.mk A10
 clear A10
 replace H := Option.bind_eq_some_iff.mp H
 obtain ⟨⟨t199, t200, t201, t204, t205, t206, t207, t210, t211, t212, t213, t216⟩, A20, H⟩ := H
 replace H : (if t198 = 0 then (if t216 = 0 then (if t199 = 5 then (if (t201.length : Int) = 2 then ((snap_Members.f k (([1, 3] : List Int))).bind fun t221 => (if t221 = true then ((snap_Members.f k (([3, 1] : List Int))).bind fun t225 => (some (!t225))) else (none))) else (none)) else (none)) else (none)) else (none)) = some r := H
 have A2 := Aside0.mk A20
 clear A20
 by_cases c3 : t198 = 0
 ·rw [if_pos c3] at H
  have c3b0 : (t198 == 0) = true := beq_iff_eq.mpr c3
  have c3b1 : (t198 != 0) = false := bne_eq_false_iff_eq.mpr c3
  clear c3
  by_cases c4 : t216 = 0
  ·rw [if_pos c4] at H
   have c4b0 : (t216 == 0) = true := beq_iff_eq.mpr c4
   have c4b1 : (t216 != 0) = false := bne_eq_false_iff_eq.mpr c4
   clear c4
   by_cases c5 : t199 = 5
   ·rw [if_pos c5] at H
    have c5b0 : (t199 == 5) = true := beq_iff_eq.mpr c5
    have c5b1 : (t199 != 5) = false := bne_eq_false_iff_eq.mpr c5
    clear c5
    by_cases c6 : (t201.length : Int) = 2
    ·rw [if_pos c6] at H
     have c6b0 : ((t201.length : Int) == 2) = true := beq_iff_eq.mpr c6
     have c6b1 : ((t201.length : Int) != 2) = false := bne_eq_false_iff_eq.mpr c6
     clear c6
     obtain ⟨y218, hy218⟩ : ∃ y_ : List Int, y_ = (([1, 3] : List Int)) := ⟨_, rfl⟩
     replace H : ((snap_Members.f k y218).bind fun t221 => (if t221 = true then ((snap_Members.f k (([3, 1] : List Int))).bind fun t225 => (some (!t225))) else (none))) = some r := by first | (rw [hy218]; with_reducible exact H) | (have H2_ := (Option.bind_some _ _).symm.trans H; rw [hy218]; with_reducible exact H2_) | (have H2_ := (Option.bind_some _ _).symm.trans H; with_reducible exact H2_) | with_reducible exact H | (rw [hy218]; exact H) | exact H
     have Ny218 := Aside0.mk hy218
     clear hy218
     replace H := Option.bind_eq_some_iff.mp H
     obtain ⟨t221, A70, H⟩ := H
     replace H : (if t221 = true then ((snap_Members.f k (([3, 1] : List Int))).bind fun t225 => (some (!t225))) else (none)) = some r := H
     have A7 := Aside0.mk A70
     clear A70
     by_cases c8 : t221 = true
     ·subst c8
      have H1 : ((snap_Members.f k (([3, 1] : List Int))).bind fun t225 => (some (!t225))) = some r := by rw [if_pos rfl] at H; exact H
      clear H
      have H := H1
      clear H1
      obtain ⟨y222, hy222⟩ : ∃ y_ : List Int, y_ = (([3, 1] : List Int)) := ⟨_, rfl⟩
      replace H : ((snap_Members.f k y222).bind fun t225 => (some (!t225))) = some r := by first | (rw [hy222]; with_reducible exact H) | (have H2_ := (Option.bind_some _ _).symm.trans H; rw [hy222]; with_reducible exact H2_) | (have H2_ := (Option.bind_some _ _).symm.trans H; with_reducible exact H2_) | with_reducible exact H | (rw [hy222]; exact H) | exact H
      have Ny222 := Aside0.mk hy222
      clear hy222
      replace H := Option.bind_eq_some_iff.mp H
      obtain ⟨t225, A90, H⟩ := H
      replace H : (some (!t225)) = some r := H
      have A9 := Aside0.mk A90
      clear A90
      obtain rfl := Option.some.inj H
      go_enter Tryd.func8, Tryd.ntmps8
      go_wp2_with (first | ((with_reducible refine gate_dst (N := 6) rfl ?_); (try (refine gate_guard (by rfl) ?_; dsimp only)); refine Kd.R_lit (Kd.int .i64) _ 3 ?hg (N := 6) ?hd (xs := ([1, 3] : List Int)) (inner := [.int .i64 1, .int .i64 3]) (ok := fun _ => True) (okp := fun _ => True) ?hr ?hp (fun _ hk => hk) trivial (Below.refl _ _) (Nat.le_refl _) (by simp) ?_; (case hd => rfl); (case hg => rfl); (case hr => first | (go_simp; done) | (go_simp; rfl)); (case hp => exact (Reps.one (show Kd.M (Kd.int .i64) _ _ _ 1 [.int .i64 1] from rfl) (Reps.one (show Kd.M (Kd.int .i64) _ _ _ 3 [.int .i64 3] from rfl) (Reps.none _ _)))); intro v193 w10 ho11 hb hg_ hnew_; clear hg_ hnew_; (first | rw [← Ny192.out] at ho11 | (simp only [Int.reduceToNat] at ho11; rw [← Ny192.out] at ho11)); have n0_ := Aside0.mk (Kd.R_lower ho11 (below_size pB)); have n1_ := Aside0.mk (below_step pB hb); clear HB; have HO194 := n0_; have HB := n1_; clear n0_ n1_; clear hb ho11; obtain ⟨Ao12, co12, eo12⟩ := Kd.R_slice HO194.out; subst eo12) | ((with_reducible refine gate_callee (f := 9) rfl ?_); refine goesL_ (some 8) rfl rfl Tryd.func9 (by kernel_rfl) rfl #[.agg #[.int .u64 5, .int .u64 0, .slice Ao12 y192.length co12, .int .i64 0, .int .u64 0, .string (⟨#[]⟩ : ByteArray), .slice none 0 0, .int .i64 0, .int .u64 0, .string (⟨#[]⟩ : ByteArray), .slice none 0 0]] rfl pM ?_; (refine (snap_Save.calls k 5 0 _ _ y192 0 0 (⟨#[]⟩ : ByteArray) (fun k_ => False) _ _ ([] : List (S26)) 0 0 (⟨#[]⟩ : ByteArray) (fun k_ => False) _ _ ([] : List (S26)) t195 t198 _ ?side1 ?side2 ?side3 ?side4 ?side5 A1.out).mono ?_); (case side1 => repeat (first | exact (Kd.R_reads' HO194.out).2.2 | (with_reducible refine Kd.C_alloc ?_ _) | (with_reducible refine Kd.C_drewN ?_ _) | (with_reducible refine Kd.C_drew ?_))); (case side2 => exact (Kd.R_reads' HO194.out).2.1); (case side3 => exact Kd.V_nil _ _ _ _ _); (case side4 => exact Kd.V_nil _ _ _ _ _); (case side5 => first | exact HG.out | exact globDrewN HG.out _ | exact globBelow HG.out pB | (repeat (first | exact HG.out | apply globDrewN | apply globDrew))); rintro e w13 ⟨v196, rfl, ho0, hb⟩; refine ⟨_, rfl, ?_⟩; have n0_ := Aside0.mk (Kd.R_below (pR HO194.out) hb); have n1_ := Aside0.mk (Kd.R_lower (Kd.R_mono (ok' := fun k_ => True) ho0 (fun _ hk_ => trivial)) (below_size pB)); have n2_ := Aside0.mk (below_step pB hb); clear HO194; clear HB; have HO194 := n0_; have HO197 := n1_; have HB := n2_; clear n0_ n1_ n2_; (try clear hb); (try clear hb2); (try clear hk); (try clear hi); (try clear ho0); obtain ⟨Ao14, co14, eo14⟩ := Kd.R_slice HO197.out; subst eo14) | ((with_reducible refine gate_callee (f := 14) rfl ?_); refine goesL_ (some 13) rfl rfl Tryd.func14 (by kernel_rfl) rfl #[.slice Ao14 t195.length co14] rfl pM ?_; (with_reducible refine (snap_Load.calls k _ _ t195 t199 t200 t201 t204 t205 t206 t207 t210 t211 t212 t213 t216 _ ?side1 ?side2 ?side3 A2.out).mono ?_); (case side1 => repeat (first | exact (Kd.R_reads' HO197.out).2.2 | (with_reducible refine Kd.C_alloc ?_ _) | (with_reducible refine Kd.C_drewN ?_ _) | (with_reducible refine Kd.C_drew ?_))); (case side2 => exact (Kd.R_reads' HO197.out).2.1); (case side3 => first | exact HG.out | exact globDrewN HG.out _ | exact globBelow HG.out pB | (repeat (first | exact HG.out | apply globDrewN | apply globDrew))); rintro e w15 ⟨v202, v208, v214, rfl, ho0, ho1, ho2, hb⟩; refine ⟨_, rfl, ?_⟩; have n0_ := Aside0.mk (Kd.R_elder' (pR HO194.out) (Kd.R_base ho0) hb); have n1_ := Aside0.mk (Kd.R_below (pR HO197.out) hb); have n2_ := Aside0.mk (Kd.R_lower (Kd.R_new' (Kd.R_mono (ok' := fun k_ => True) ho0 (fun _ hk_ => trivial)) (Kd.R_lt (pR HO194.out))) (below_size pB)); have n3_ := Aside0.mk (Kd.V_lower (Kd.V_mono (ok' := fun k_ => some k_ ≠ (v202 : Value).ownBlock ∧ some k_ ≠ (.slice Ao12 y192.length co12 : Value).ownBlock ∧ some k_ ≠ (.slice Ao14 t195.length co14 : Value).ownBlock) ho1 (fun k_ hk_ => ⟨hk_.2, (Kd.fresh' (Kd.R_lt (pR HO194.out)) k_ hk_.1), (Kd.fresh' (Kd.R_lt (pR HO197.out)) k_ hk_.1)⟩)) (below_size pB)); have n4_ := Aside0.mk (Kd.V_lower (Kd.V_mono (ok' := fun k_ => some k_ ≠ (v202 : Value).ownBlock ∧ some k_ ≠ (.slice Ao12 y192.length co12 : Value).ownBlock ∧ some k_ ≠ (.slice Ao14 t195.length co14 : Value).ownBlock) ho2 (fun k_ hk_ => ⟨hk_.2, (Kd.fresh' (Kd.R_lt (pR HO194.out)) k_ hk_.1), (Kd.fresh' (Kd.R_lt (pR HO197.out)) k_ hk_.1)⟩)) (below_size pB)); have n5_ := Aside0.mk (below_step pB hb); clear HO194; clear HO197; clear HB; have HO194 := n0_; have HO197 := n1_; have HO203 := n2_; have HO209 := n3_; have HO215 := n4_; have HB := n5_; clear n0_ n1_ n2_ n3_ n4_ n5_; (try clear hb); (try clear hb2); (try clear hk); (try clear hi); (try clear ho0); (try clear ho1); (try clear ho2)) | ((with_reducible refine gate_dst (N := 3) rfl ?_); (try (refine gate_guard (by rfl) ?_; dsimp only)); refine box_event ?hg (N := 3) ?hd (cs := #[.int .u64 0, .int .u64 0, .slice none 0 0, .int .i64 0, .int .u64 0, .string (⟨#[]⟩ : ByteArray), .slice none 0 0, .int .i64 0, .int .u64 0, .string (⟨#[]⟩ : ByteArray), .slice none 0 0]) (t := 28) ?hr ?_; (case hd => rfl); (case hg => rfl); (case hr => first | (go_simp; done) | (go_simp; rfl)); intro gb217 hg w16 hbox hb; have n0_ := Aside0.mk (Kd.R_below (pR HO194.out) hb); have n1_ := Aside0.mk (Kd.R_below (pR HO197.out) hb); have n2_ := Aside0.mk (Kd.R_below (pR HO203.out) hb); have n3_ := Aside0.mk (Kd.V_below (Kd.V_elderB (pV HO209.out) gb217 (Nat.le_of_eq hg.symm)) hb); have n4_ := Aside0.mk (Kd.V_below (Kd.V_elderB (pV HO215.out) gb217 (Nat.le_of_eq hg.symm)) hb); have n5_ := Aside0.mk (below_step pB hb); have n6_ := Aside0.mk (hbox); have n7_ := Aside0.mk ((by rw [hg]; exact (below_size pB) : w.heap.size ≤ gb217)); have n8_ := Aside0.mk ((by rw [hg]; exact (below_size pB) : w.heap.size ≤ gb217)); clear HO194; clear HO197; clear HO203; clear HO209; clear HO215; clear HB; have HO194 := n0_; have HO197 := n1_; have HO203 := n2_; have HO209 := n3_; have HO215 := n4_; have HB := n5_; have BK217 := n6_; have GW217 := n7_; have GE217 := n8_; clear n0_ n1_ n2_ n3_ n4_ n5_ n6_ n7_ n8_; clear hb hbox hg; obtain ⟨hcz17_0, hcz17_1, hcz17_2, hcz17_3, hcz17_4, hcz17_5, hcz17_6, hcz17_7, hcz17_8, hcz17_9, hcz17_10, hfz17_0, hfz17_1, hfz17_2, hfz17_3, hfz17_4, hfz17_5, hfz17_6, hfz17_7, hfz17_8, hfz17_9, hfz17_10⟩ := cf11 BK217.out; obtain ⟨Ao18, co18, eo18⟩ := Kd.R_slice HO203.out; subst eo18; obtain ⟨Ao19, co19, eo19⟩ := Kd.V_slice HO209.out; subst eo19; obtain ⟨Ao20, co20, eo20⟩ := Kd.V_slice HO215.out; subst eo20) | ((with_reducible refine gate_dst (N := 34) rfl ?_); (try (refine gate_guard (by rfl) ?_; dsimp only)); refine Kd.R_lit (Kd.int .i64) _ 3 ?hg (N := 34) ?hd (xs := ([1, 3] : List Int)) (inner := [.int .i64 1, .int .i64 3]) (ok := fun _ => True) (okp := fun _ => True) ?hr ?hp (fun _ hk => hk) trivial (Below.refl _ _) (Nat.le_refl _) (by simp) ?_; (case hd => rfl); (case hg => rfl); (case hr => first | (go_simp; done) | (go_simp; rfl)); (case hp => exact (Reps.one (show Kd.M (Kd.int .i64) _ _ _ 1 [.int .i64 1] from rfl) (Reps.one (show Kd.M (Kd.int .i64) _ _ _ 3 [.int .i64 3] from rfl) (Reps.none _ _)))); intro v219 w21 ho22 hb hg_ hnew_; clear hg_ hnew_; (first | rw [← Ny218.out] at ho22 | (simp only [Int.reduceToNat] at ho22; rw [← Ny218.out] at ho22)); have n0_ := Aside0.mk (Kd.R_elder' (by (with_reducible repeat (first | apply Kd.R_alloc | apply Kd.R_drewN | apply Kd.R_drew)); exact (Kd.R_mono (Kd.R_far (p := ⟨gb217, 10, none⟩) (Kd.R_far (p := ⟨gb217, 9, none⟩) (Kd.R_far (p := ⟨gb217, 8, none⟩) (Kd.R_far (p := ⟨gb217, 7, none⟩) (Kd.R_far (p := ⟨gb217, 6, none⟩) (Kd.R_far (p := ⟨gb217, 5, none⟩) (Kd.R_far (p := ⟨gb217, 4, none⟩) (Kd.R_far (p := ⟨gb217, 3, none⟩) (Kd.R_far (p := ⟨gb217, 2, none⟩) (Kd.R_far (p := ⟨gb217, 1, none⟩) (Kd.R_far (p := ⟨gb217, 0, none⟩) (Kd.R_types HO194.out BK217.out (by decide)) (fun _ hk => hk.2) (.int .u64 t199)) (fun _ hk => hk.2) (.int .u64 t200)) (fun _ hk => hk.2) (.slice Ao18 t201.length co18)) (fun _ hk => hk.2) (.int .i64 t204)) (fun _ hk => hk.2) (.int .u64 t205)) (fun _ hk => hk.2) (.string t206)) (fun _ hk => hk.2) (.slice Ao19 t207.length co19)) (fun _ hk => hk.2) (.int .i64 t210)) (fun _ hk => hk.2) (.int .u64 t211)) (fun _ hk => hk.2) (.string t212)) (fun _ hk => hk.2) (.slice Ao20 t213.length co20)) (fun _ h_ => h_.1))) (Kd.R_base ho22) hb); have n1_ := Aside0.mk (Kd.R_below (by (with_reducible repeat (first | apply Kd.R_alloc | apply Kd.R_drewN | apply Kd.R_drew)); exact (Kd.R_mono (Kd.R_far (p := ⟨gb217, 10, none⟩) (Kd.R_far (p := ⟨gb217, 9, none⟩) (Kd.R_far (p := ⟨gb217, 8, none⟩) (Kd.R_far (p := ⟨gb217, 7, none⟩) (Kd.R_far (p := ⟨gb217, 6, none⟩) (Kd.R_far (p := ⟨gb217, 5, none⟩) (Kd.R_far (p := ⟨gb217, 4, none⟩) (Kd.R_far (p := ⟨gb217, 3, none⟩) (Kd.R_far (p := ⟨gb217, 2, none⟩) (Kd.R_far (p := ⟨gb217, 1, none⟩) (Kd.R_far (p := ⟨gb217, 0, none⟩) (Kd.R_types HO197.out BK217.out (by decide)) (fun _ hk => hk.2) (.int .u64 t199)) (fun _ hk => hk.2) (.int .u64 t200)) (fun _ hk => hk.2) (.slice Ao18 t201.length co18)) (fun _ hk => hk.2) (.int .i64 t204)) (fun _ hk => hk.2) (.int .u64 t205)) (fun _ hk => hk.2) (.string t206)) (fun _ hk => hk.2) (.slice Ao19 t207.length co19)) (fun _ hk => hk.2) (.int .i64 t210)) (fun _ hk => hk.2) (.int .u64 t211)) (fun _ hk => hk.2) (.string t212)) (fun _ hk => hk.2) (.slice Ao20 t213.length co20)) (fun _ h_ => h_.1))) hb); have n2_ := Aside0.mk (Kd.R_elder' (by (with_reducible repeat (first | apply Kd.R_alloc | apply Kd.R_drewN | apply Kd.R_drew)); exact (Kd.R_mono (Kd.R_far (p := ⟨gb217, 10, none⟩) (Kd.R_far (p := ⟨gb217, 9, none⟩) (Kd.R_far (p := ⟨gb217, 8, none⟩) (Kd.R_far (p := ⟨gb217, 7, none⟩) (Kd.R_far (p := ⟨gb217, 6, none⟩) (Kd.R_far (p := ⟨gb217, 5, none⟩) (Kd.R_far (p := ⟨gb217, 4, none⟩) (Kd.R_far (p := ⟨gb217, 3, none⟩) (Kd.R_far (p := ⟨gb217, 2, none⟩) (Kd.R_far (p := ⟨gb217, 1, none⟩) (Kd.R_far (p := ⟨gb217, 0, none⟩) (Kd.R_types HO203.out BK217.out (by decide)) (fun _ hk => hk.2) (.int .u64 t199)) (fun _ hk => hk.2) (.int .u64 t200)) (fun _ hk => hk.2) (.slice Ao18 t201.length co18)) (fun _ hk => hk.2) (.int .i64 t204)) (fun _ hk => hk.2) (.int .u64 t205)) (fun _ hk => hk.2) (.string t206)) (fun _ hk => hk.2) (.slice Ao19 t207.length co19)) (fun _ hk => hk.2) (.int .i64 t210)) (fun _ hk => hk.2) (.int .u64 t211)) (fun _ hk => hk.2) (.string t212)) (fun _ hk => hk.2) (.slice Ao20 t213.length co20)) (fun _ h_ => h_.1))) (Kd.R_base ho22) hb); have n3_ := Aside0.mk (Kd.V_elder' (by (with_reducible repeat (first | apply Kd.V_alloc | apply Kd.V_drewN | apply Kd.V_drew)); exact (Kd.V_mono (Kd.V_far (p := ⟨gb217, 10, none⟩) (Kd.V_far (p := ⟨gb217, 9, none⟩) (Kd.V_far (p := ⟨gb217, 8, none⟩) (Kd.V_far (p := ⟨gb217, 7, none⟩) (Kd.V_far (p := ⟨gb217, 6, none⟩) (Kd.V_far (p := ⟨gb217, 5, none⟩) (Kd.V_far (p := ⟨gb217, 4, none⟩) (Kd.V_far (p := ⟨gb217, 3, none⟩) (Kd.V_far (p := ⟨gb217, 2, none⟩) (Kd.V_far (p := ⟨gb217, 1, none⟩) (Kd.V_far (p := ⟨gb217, 0, none⟩) (Kd.V_mono HO209.out (fun k_ hk => (⟨hk, hk.2⟩ : _ ∧ k_ ≠ gb217))) (fun _ hk => hk.2) (.int .u64 t199)) (fun _ hk => hk.2) (.int .u64 t200)) (fun _ hk => hk.2) (.slice Ao18 t201.length co18)) (fun _ hk => hk.2) (.int .i64 t204)) (fun _ hk => hk.2) (.int .u64 t205)) (fun _ hk => hk.2) (.string t206)) (fun _ hk => hk.2) (.slice Ao19 t207.length co19)) (fun _ hk => hk.2) (.int .i64 t210)) (fun _ hk => hk.2) (.int .u64 t211)) (fun _ hk => hk.2) (.string t212)) (fun _ hk => hk.2) (.slice Ao20 t213.length co20)) (fun _ h_ => h_.1))) (Kd.R_base ho22) hb); have n4_ := Aside0.mk (Kd.V_elder' (by (with_reducible repeat (first | apply Kd.V_alloc | apply Kd.V_drewN | apply Kd.V_drew)); exact (Kd.V_mono (Kd.V_far (p := ⟨gb217, 10, none⟩) (Kd.V_far (p := ⟨gb217, 9, none⟩) (Kd.V_far (p := ⟨gb217, 8, none⟩) (Kd.V_far (p := ⟨gb217, 7, none⟩) (Kd.V_far (p := ⟨gb217, 6, none⟩) (Kd.V_far (p := ⟨gb217, 5, none⟩) (Kd.V_far (p := ⟨gb217, 4, none⟩) (Kd.V_far (p := ⟨gb217, 3, none⟩) (Kd.V_far (p := ⟨gb217, 2, none⟩) (Kd.V_far (p := ⟨gb217, 1, none⟩) (Kd.V_far (p := ⟨gb217, 0, none⟩) (Kd.V_mono HO215.out (fun k_ hk => (⟨hk, hk.2⟩ : _ ∧ k_ ≠ gb217))) (fun _ hk => hk.2) (.int .u64 t199)) (fun _ hk => hk.2) (.int .u64 t200)) (fun _ hk => hk.2) (.slice Ao18 t201.length co18)) (fun _ hk => hk.2) (.int .i64 t204)) (fun _ hk => hk.2) (.int .u64 t205)) (fun _ hk => hk.2) (.string t206)) (fun _ hk => hk.2) (.slice Ao19 t207.length co19)) (fun _ hk => hk.2) (.int .i64 t210)) (fun _ hk => hk.2) (.int .u64 t211)) (fun _ hk => hk.2) (.string t212)) (fun _ hk => hk.2) (.slice Ao20 t213.length co20)) (fun _ h_ => h_.1))) (Kd.R_base ho22) hb); have n5_ := Aside0.mk (Kd.R_lower (Kd.R_new' (Kd.R_new' ho22 (Kd.R_lt (by (with_reducible repeat (first | apply Kd.R_alloc | apply Kd.R_drewN | apply Kd.R_drew)); exact (Kd.R_mono (Kd.R_far (p := ⟨gb217, 10, none⟩) (Kd.R_far (p := ⟨gb217, 9, none⟩) (Kd.R_far (p := ⟨gb217, 8, none⟩) (Kd.R_far (p := ⟨gb217, 7, none⟩) (Kd.R_far (p := ⟨gb217, 6, none⟩) (Kd.R_far (p := ⟨gb217, 5, none⟩) (Kd.R_far (p := ⟨gb217, 4, none⟩) (Kd.R_far (p := ⟨gb217, 3, none⟩) (Kd.R_far (p := ⟨gb217, 2, none⟩) (Kd.R_far (p := ⟨gb217, 1, none⟩) (Kd.R_far (p := ⟨gb217, 0, none⟩) (Kd.R_types HO194.out BK217.out (by decide)) (fun _ hk => hk.2) (.int .u64 t199)) (fun _ hk => hk.2) (.int .u64 t200)) (fun _ hk => hk.2) (.slice Ao18 t201.length co18)) (fun _ hk => hk.2) (.int .i64 t204)) (fun _ hk => hk.2) (.int .u64 t205)) (fun _ hk => hk.2) (.string t206)) (fun _ hk => hk.2) (.slice Ao19 t207.length co19)) (fun _ hk => hk.2) (.int .i64 t210)) (fun _ hk => hk.2) (.int .u64 t211)) (fun _ hk => hk.2) (.string t212)) (fun _ hk => hk.2) (.slice Ao20 t213.length co20)) (fun _ h_ => h_.1))))) (Kd.R_lt (by (with_reducible repeat (first | apply Kd.R_alloc | apply Kd.R_drewN | apply Kd.R_drew)); exact (Kd.R_mono (Kd.R_far (p := ⟨gb217, 10, none⟩) (Kd.R_far (p := ⟨gb217, 9, none⟩) (Kd.R_far (p := ⟨gb217, 8, none⟩) (Kd.R_far (p := ⟨gb217, 7, none⟩) (Kd.R_far (p := ⟨gb217, 6, none⟩) (Kd.R_far (p := ⟨gb217, 5, none⟩) (Kd.R_far (p := ⟨gb217, 4, none⟩) (Kd.R_far (p := ⟨gb217, 3, none⟩) (Kd.R_far (p := ⟨gb217, 2, none⟩) (Kd.R_far (p := ⟨gb217, 1, none⟩) (Kd.R_far (p := ⟨gb217, 0, none⟩) (Kd.R_types HO203.out BK217.out (by decide)) (fun _ hk => hk.2) (.int .u64 t199)) (fun _ hk => hk.2) (.int .u64 t200)) (fun _ hk => hk.2) (.slice Ao18 t201.length co18)) (fun _ hk => hk.2) (.int .i64 t204)) (fun _ hk => hk.2) (.int .u64 t205)) (fun _ hk => hk.2) (.string t206)) (fun _ hk => hk.2) (.slice Ao19 t207.length co19)) (fun _ hk => hk.2) (.int .i64 t210)) (fun _ hk => hk.2) (.int .u64 t211)) (fun _ hk => hk.2) (.string t212)) (fun _ hk => hk.2) (.slice Ao20 t213.length co20)) (fun _ h_ => h_.1))))) (below_size pB)); have n6_ := Aside0.mk (blk_below (g := gb217) (o := .cells #[.int .u64 t199, .int .u64 t200, .slice Ao18 t201.length co18, .int .i64 t204, .int .u64 t205, .string t206, .slice Ao19 t207.length co19, .int .i64 t210, .int .u64 t211, .string t212, .slice Ao20 t213.length co20] 28 (0, 0)) (by (with_reducible repeat (first | refine blk_drewN ?_ _ | refine blk_drew ?_ | refine blk_alloc ?_ _)); refine blk_put (cs := #[.int .u64 t199, .int .u64 t200, .slice Ao18 t201.length co18, .int .i64 t204, .int .u64 t205, .string t206, .slice Ao19 t207.length co19, .int .i64 t210, .int .u64 t211, .string t212, .slice none 0 0]) ?_ 10 _ rfl; (with_reducible repeat (first | refine blk_drewN ?_ _ | refine blk_drew ?_ | refine blk_alloc ?_ _)); refine blk_put (cs := #[.int .u64 t199, .int .u64 t200, .slice Ao18 t201.length co18, .int .i64 t204, .int .u64 t205, .string t206, .slice Ao19 t207.length co19, .int .i64 t210, .int .u64 t211, .string (⟨#[]⟩ : ByteArray), .slice none 0 0]) ?_ 9 _ rfl; (with_reducible repeat (first | refine blk_drewN ?_ _ | refine blk_drew ?_ | refine blk_alloc ?_ _)); refine blk_put (cs := #[.int .u64 t199, .int .u64 t200, .slice Ao18 t201.length co18, .int .i64 t204, .int .u64 t205, .string t206, .slice Ao19 t207.length co19, .int .i64 t210, .int .u64 0, .string (⟨#[]⟩ : ByteArray), .slice none 0 0]) ?_ 8 _ rfl; (with_reducible repeat (first | refine blk_drewN ?_ _ | refine blk_drew ?_ | refine blk_alloc ?_ _)); refine blk_put (cs := #[.int .u64 t199, .int .u64 t200, .slice Ao18 t201.length co18, .int .i64 t204, .int .u64 t205, .string t206, .slice Ao19 t207.length co19, .int .i64 0, .int .u64 0, .string (⟨#[]⟩ : ByteArray), .slice none 0 0]) ?_ 7 _ rfl; (with_reducible repeat (first | refine blk_drewN ?_ _ | refine blk_drew ?_ | refine blk_alloc ?_ _)); refine blk_put (cs := #[.int .u64 t199, .int .u64 t200, .slice Ao18 t201.length co18, .int .i64 t204, .int .u64 t205, .string t206, .slice none 0 0, .int .i64 0, .int .u64 0, .string (⟨#[]⟩ : ByteArray), .slice none 0 0]) ?_ 6 _ rfl; (with_reducible repeat (first | refine blk_drewN ?_ _ | refine blk_drew ?_ | refine blk_alloc ?_ _)); refine blk_put (cs := #[.int .u64 t199, .int .u64 t200, .slice Ao18 t201.length co18, .int .i64 t204, .int .u64 t205, .string (⟨#[]⟩ : ByteArray), .slice none 0 0, .int .i64 0, .int .u64 0, .string (⟨#[]⟩ : ByteArray), .slice none 0 0]) ?_ 5 _ rfl; (with_reducible repeat (first | refine blk_drewN ?_ _ | refine blk_drew ?_ | refine blk_alloc ?_ _)); refine blk_put (cs := #[.int .u64 t199, .int .u64 t200, .slice Ao18 t201.length co18, .int .i64 t204, .int .u64 0, .string (⟨#[]⟩ : ByteArray), .slice none 0 0, .int .i64 0, .int .u64 0, .string (⟨#[]⟩ : ByteArray), .slice none 0 0]) ?_ 4 _ rfl; (with_reducible repeat (first | refine blk_drewN ?_ _ | refine blk_drew ?_ | refine blk_alloc ?_ _)); refine blk_put (cs := #[.int .u64 t199, .int .u64 t200, .slice Ao18 t201.length co18, .int .i64 0, .int .u64 0, .string (⟨#[]⟩ : ByteArray), .slice none 0 0, .int .i64 0, .int .u64 0, .string (⟨#[]⟩ : ByteArray), .slice none 0 0]) ?_ 3 _ rfl; (with_reducible repeat (first | refine blk_drewN ?_ _ | refine blk_drew ?_ | refine blk_alloc ?_ _)); refine blk_put (cs := #[.int .u64 t199, .int .u64 t200, .slice none 0 0, .int .i64 0, .int .u64 0, .string (⟨#[]⟩ : ByteArray), .slice none 0 0, .int .i64 0, .int .u64 0, .string (⟨#[]⟩ : ByteArray), .slice none 0 0]) ?_ 2 _ rfl; (with_reducible repeat (first | refine blk_drewN ?_ _ | refine blk_drew ?_ | refine blk_alloc ?_ _)); refine blk_put (cs := #[.int .u64 t199, .int .u64 0, .slice none 0 0, .int .i64 0, .int .u64 0, .string (⟨#[]⟩ : ByteArray), .slice none 0 0, .int .i64 0, .int .u64 0, .string (⟨#[]⟩ : ByteArray), .slice none 0 0]) ?_ 1 _ rfl; (with_reducible repeat (first | refine blk_drewN ?_ _ | refine blk_drew ?_ | refine blk_alloc ?_ _)); refine blk_put (cs := #[.int .u64 0, .int .u64 0, .slice none 0 0, .int .i64 0, .int .u64 0, .string (⟨#[]⟩ : ByteArray), .slice none 0 0, .int .i64 0, .int .u64 0, .string (⟨#[]⟩ : ByteArray), .slice none 0 0]) ?_ 0 _ rfl; (with_reducible repeat (first | refine blk_drewN ?_ _ | refine blk_drew ?_ | refine blk_alloc ?_ _)); exact BK217.out) hb); have n7_ := Aside0.mk (below_step pB hb); clear HO194; clear HO197; clear HO203; clear HO209; clear HO215; clear BK217; clear HB; have HO194 := n0_; have HO197 := n1_; have HO203 := n2_; have HO209 := n3_; have HO215 := n4_; have HO220 := n5_; have BK217 := n6_; have HB := n7_; clear n0_ n1_ n2_ n3_ n4_ n5_ n6_ n7_; clear hb ho22; obtain ⟨Ao23, co23, eo23⟩ := Kd.R_slice HO220.out; subst eo23) | (go_at_call 12; (with_reducible refine (snap_Members.calls k _ _ y218 true _ ?side1 ?side2 A7.out).mono ?_); (case side1 => repeat (first | exact (Kd.R_reads' HO220.out).2.2 | (with_reducible refine Kd.C_alloc ?_ _) | (with_reducible refine Kd.C_drewN ?_ _) | (with_reducible refine Kd.C_drew ?_))); (case side2 => exact (Kd.R_reads' HO220.out).2.1); rintro e w' ⟨rfl, ⟨nd, rfl⟩⟩) | ((with_reducible refine gate_dst (N := 38) rfl ?_); (try (refine gate_guard (by rfl) ?_; dsimp only)); refine Kd.R_lit (Kd.int .i64) _ 3 ?hg (N := 38) ?hd (xs := ([3, 1] : List Int)) (inner := [.int .i64 3, .int .i64 1]) (ok := fun _ => True) (okp := fun _ => True) ?hr ?hp (fun _ hk => hk) trivial (Below.refl _ _) (Nat.le_refl _) (by simp) ?_; (case hd => rfl); (case hg => rfl); (case hr => first | (go_simp; done) | (go_simp; rfl)); (case hp => exact (Reps.one (show Kd.M (Kd.int .i64) _ _ _ 3 [.int .i64 3] from rfl) (Reps.one (show Kd.M (Kd.int .i64) _ _ _ 1 [.int .i64 1] from rfl) (Reps.none _ _)))); intro v223 w24 ho25 hb hg_ hnew_; clear hg_ hnew_; (first | rw [← Ny222.out] at ho25 | (simp only [Int.reduceToNat] at ho25; rw [← Ny222.out] at ho25)); have n0_ := Aside0.mk (Kd.R_elder' (pR HO194.out) (Kd.R_base ho25) hb); have n1_ := Aside0.mk (Kd.R_below (pR HO197.out) hb); have n2_ := Aside0.mk (Kd.R_elder' (pR HO203.out) (Kd.R_base ho25) hb); have n3_ := Aside0.mk (Kd.V_elder' (pV HO209.out) (Kd.R_base ho25) hb); have n4_ := Aside0.mk (Kd.V_elder' (pV HO215.out) (Kd.R_base ho25) hb); have n5_ := Aside0.mk (Kd.R_elder' (pR HO220.out) (Kd.R_base ho25) hb); have n6_ := Aside0.mk (Kd.R_lower (Kd.R_new' (Kd.R_new' (Kd.R_new' ho25 (Kd.R_lt (pR HO194.out))) (Kd.R_lt (pR HO203.out))) (Kd.R_lt (pR HO220.out))) (below_size pB)); have n7_ := Aside0.mk (pkb BK217.out hb); have n8_ := Aside0.mk (below_step pB hb); clear HO194; clear HO197; clear HO203; clear HO209; clear HO215; clear HO220; clear BK217; clear HB; have HO194 := n0_; have HO197 := n1_; have HO203 := n2_; have HO209 := n3_; have HO215 := n4_; have HO220 := n5_; have HO224 := n6_; have BK217 := n7_; have HB := n8_; clear n0_ n1_ n2_ n3_ n4_ n5_ n6_ n7_ n8_; clear hb ho25; obtain ⟨Ao26, co26, eo26⟩ := Kd.R_slice HO224.out; subst eo26) | (go_at_call 12; (with_reducible refine (snap_Members.calls k _ _ y222 t225 _ ?side1 ?side2 A9.out).mono ?_); (case side1 => repeat (first | exact (Kd.R_reads' HO224.out).2.2 | (with_reducible refine Kd.C_alloc ?_ _) | (with_reducible refine Kd.C_drewN ?_ _) | (with_reducible refine Kd.C_drew ?_))); (case side2 => exact (Kd.R_reads' HO224.out).2.1); rintro e w' ⟨rfl, ⟨nd, rfl⟩⟩))
      go_ret
      exact ⟨pE, pB⟩
     ·replace c8 := Bool.eq_false_iff.mpr c8
      subst c8
      have H1 : (none) = some r := by rw [if_neg (show ¬ (false = true) by decide)] at H; exact H
      clear H
      have H := H1
      clear H1
      exact absurd H (by simp)
    ·rw [if_neg c6] at H
     exact absurd H (by simp)
   ·rw [if_neg c5] at H
    exact absurd H (by simp)
  ·rw [if_neg c4] at H
   exact absurd H (by simp)
 ·rw [if_neg c3] at H
  exact absurd H (by simp)
mutual
def minstrelref07_Own.l0 : Nat → List (S26) → Int → Int → Int → ByteArray → List (S26) → Option (Int × Int × ByteArray × (List (S26)))
 | 0, _, _, _, _, _, _ => none
 | k + 1, x3, x4, x227000, x227001, x227002, x227003 => if x4 < (x227003.length : Int) then (if 0 ≤ x4 then ((minstrelref07_Own.f k ((rd_T26 x227003 x4).f0) ((rd_T26 x227003 x4).f1) ((rd_T26 x227003 x4).f2) ((rd_T26 x227003 x4).f3)).bind fun bt232 => (if x3.length < 2513169434916 then (minstrelref07_Own.l0 k (x3 ++ [(⟨bt232.1, bt232.2.1, bt232.2.2.1, bt232.2.2.2⟩ : S26)]) (wrap64 (x4 + 1)) x227000 x227001 x227002 x227003) else (none))) else (none)) else (some (x227000, x227001, x227002, x3))
def minstrelref07_Own.f : Nat → Int → Int → ByteArray → List (S26) → Option (Int × Int × ByteArray × (List (S26)))
 | 0, _, _, _, _ => none
 | k + 1, a0_0, a0_1, a0_2, l0_3 => minstrelref07_Own.l0 k (([] : List (S26))) 0 a0_0 a0_1 a0_2 l0_3
end
theorem minstrelref07_Own.mono_l : ∀ k, (∀ y0 y1 y2 y3, LeO (minstrelref07_Own.f k y0 y1 y2 y3) (minstrelref07_Own.f (k + 1) y0 y1 y2 y3)) ∧ (∀ y0 y1 y2 y3 y4 y5, LeO (minstrelref07_Own.l0 k y0 y1 y2 y3 y4 y5) (minstrelref07_Own.l0 (k + 1) y0 y1 y2 y3 y4 y5))
 | 0 => ⟨fun _ _ _ _ r h => by simp [minstrelref07_Own.f] at h, fun _ _ _ _ _ _ r h => by simp [minstrelref07_Own.l0] at h⟩
 | k + 1 => by
  obtain ⟨ih0, ih1⟩ := minstrelref07_Own.mono_l k
  refine ⟨?_, ?_⟩
  ·intro y0 y1 y2 y3
   unfold minstrelref07_Own.f
   repeat' first
   | (with_reducible exact ih0 _ _ _ _)
   | (with_reducible exact ih1 _ _ _ _ _ _)
   | (with_reducible exact LeO.refl _)
   | (with_reducible exact LeO.none _)
   | (with_reducible refine LeO.ite ?_ ?_)
   | (with_reducible refine LeO.bind ?_ (fun _ => ?_))
   | exact ih0 _ _ _ _
   | exact ih1 _ _ _ _ _ _
   | exact LeO.none _
   | refine LeO.ite ?_ ?_
   | refine LeO.bind ?_ (fun _ => ?_)
  ·intro y0 y1 y2 y3 y4 y5
   unfold minstrelref07_Own.l0
   repeat' first
   | (with_reducible exact ih0 _ _ _ _)
   | (with_reducible exact ih1 _ _ _ _ _ _)
   | (with_reducible exact LeO.refl _)
   | (with_reducible exact LeO.none _)
   | (with_reducible refine LeO.ite ?_ ?_)
   | (with_reducible refine LeO.bind ?_ (fun _ => ?_))
   | exact ih0 _ _ _ _
   | exact ih1 _ _ _ _ _ _
   | exact LeO.none _
   | refine LeO.ite ?_ ?_
   | refine LeO.bind ?_ (fun _ => ?_)
theorem minstrelref07_Own.mono : ∀ a0 a1 a2 a3 k, LeO (minstrelref07_Own.f k a0 a1 a2 a3) (minstrelref07_Own.f (k + 1) a0 a1 a2 a3) := by
 intro a0 a1 a2 a3 k
 obtain ⟨ih0, ih1⟩ := minstrelref07_Own.mono_l k
 exact ih0 a0 a1 a2 a3
set_option maxHeartbeats 8000000 in
set_option maxRecDepth 100000 in
theorem minstrelref07_Own.calls (k : Nat) : ∀ (a0_0 : Int) (a0_1 : Int) (a0_2 : ByteArray) (A0_3 : Option Addr) (c0_3 : Nat) (l0_3 : List (S26)) (r1 : Int) (r2 : Int) (r3 : ByteArray) (r4 : List (S26)) (w : World) (hr0_3 : Kd.C k26 w A0_3 l0_3.length l0_3) (hc0_3 : l0_3.length ≤ c0_3) (h : minstrelref07_Own.f k a0_0 a0_1 a0_2 l0_3 = some (r1, r2, r3, r4)),
  Calls Tryd.prog 21 #[.agg #[.int .i64 a0_0, .int .u64 a0_1, .string a0_2, .slice A0_3 l0_3.length c0_3]] w fun e w' => ∃ v3_ : Value, e = .returned (.agg #[.int .i64 r1, .int .u64 r2, .string r3, v3_]) ∧ Kd.R k26 26 w' w.heap.size (fun _ => True) v3_ r4 ∧ Below w.heap.size w w' := by
 induction k using Nat.strongRecOn with
 | _ k ih =>
 intro a0_0 a0_1 a0_2 A0_3 c0_3 l0_3 r1 r2 r3 r4 w hr0_3 hc0_3 h
 cases k with
 | zero => exact absurd h (by simp [minstrelref07_Own.f])
 | succ k =>
 simp only [minstrelref07_Own.f] at h
 have hu26 := Tryd.underlying26
 have HR0_3 := Aside0.mk hr0_3
 have HC0_3 := Aside0.mk hc0_3
 clear hr0_3 hc0_3
 have HB := Aside0.mk (Below.refl w.heap.size w)
 have H : (minstrelref07_Own.l0 k (([] : List (S26))) 0 a0_0 a0_1 a0_2 l0_3) = some (r1, r2, r3, r4) := h
 clear h
 obtain ⟨y228, hy228⟩ : ∃ y_ : List (S26), y_ = (([] : List (S26))) := ⟨_, rfl⟩
 replace H : (minstrelref07_Own.l0 k y228 0 a0_0 a0_1 a0_2 l0_3) = some (r1, r2, r3, r4) := by first | (rw [hy228]; with_reducible exact H) | (have H2_ := (Option.bind_some _ _).symm.trans H; rw [hy228]; with_reducible exact H2_) | (have H2_ := (Option.bind_some _ _).symm.trans H; with_reducible exact H2_) | with_reducible exact H | (rw [hy228]; exact H) | exact H
 have Ny228 := Aside0.mk hy228
 clear hy228
 have H' := Aside0.mk H
 clear H
 go_enter Tryd.func21, Tryd.ntmps21
 go_wp2_with (first | ((with_reducible refine gate_dst (N := 1) rfl ?_); refine box_event ?hg (N := 1) ?hd (cs := #[.int .i64 a0_0, .int .u64 a0_1, .string a0_2, .slice A0_3 l0_3.length c0_3]) (t := 26) ?hr ?_; (case hd => rfl); (case hg => rfl); (case hr => first | (go_simp; done) | (go_simp; rfl)); intro gb226 hg w2 hbox hb; have n0_ := Aside0.mk (below_step pB hb); have n1_ := Aside0.mk (hbox); have n2_ := Aside0.mk ((by rw [hg]; exact (below_size pB) : w.heap.size ≤ gb226)); have n3_ := Aside0.mk ((by rw [hg]; exact (below_size pB) : w.heap.size ≤ gb226)); clear HB; have HB := n0_; have BK226 := n1_; have GW226 := n2_; have GE226 := n3_; clear n0_ n1_ n2_ n3_; clear hb hbox hg) | ((with_reducible refine gate_dst (N := 2) rfl ?_); refine box_event ?hg (N := 2) ?hd (cs := #[.int .i64 0, .int .u64 0, .string (⟨#[]⟩ : ByteArray), .slice none 0 0]) (t := 26) ?hr ?_; (case hd => rfl); (case hg => rfl); (case hr => first | (go_simp; done) | (go_simp; rfl)); intro gb227 hg w3 hbox hb; have n0_ := Aside0.mk (pkb BK226.out hb); have n1_ := Aside0.mk (below_step pB hb); have n2_ := Aside0.mk (hbox); have n3_ := Aside0.mk ((by rw [hg]; exact (below_size pB) : w.heap.size ≤ gb227)); have n4_ := Aside0.mk ((by rw [hg]; exact (below_size pB) : w.heap.size ≤ gb227)); have n5_ := Aside0.mk ((by rw [hg]; exact Nat.ne_of_lt (pkl BK226.out) : gb226 ≠ gb227)); have n6_ := Aside0.mk ((by rw [hg]; exact Nat.ne_of_gt (pkl BK226.out) : gb227 ≠ gb226)); clear BK226; clear HB; have BK226 := n0_; have HB := n1_; have BK227 := n2_; have GW227 := n3_; have GE227 := n4_; have NB226_227 := n5_; have NB227_226 := n6_; clear n0_ n1_ n2_ n3_ n4_ n5_ n6_; clear hb hbox hg) | ((with_reducible refine gate_dst (N := 5) rfl ?_); refine Kd.R_lit k26 _ 26 ?hg (N := 5) ?hd (xs := ([] : List (S26))) (inner := []) (ok := fun _ => True) (okp := fun _ => True) ?hr ?hp (fun _ hk => hk) trivial (Below.refl _ _) (Nat.le_refl _) (by simp) ?_; (case hd => rfl); (case hg => rfl); (case hr => first | (go_simp; done) | (go_simp; rfl)); (case hp => exact (Reps.none _ _)); intro v229 w4 ho5 hb hg_ hnew_; clear hg_ hnew_; (first | rw [← Ny228.out] at ho5 | (simp only [Int.reduceToNat] at ho5; rw [← Ny228.out] at ho5)); have n0_ := Aside0.mk (Kd.R_lower (Kd.R_newB (Kd.R_newB ho5 (g := gb226) (o := .cells #[.int .i64 a0_0, .int .u64 a0_1, .string a0_2, .slice A0_3 l0_3.length c0_3] 26 (0, 0)) (pK BK226.out)) (g := gb227) (o := .cells #[.int .i64 0, .int .u64 0, .string (⟨#[]⟩ : ByteArray), .slice none 0 0] 26 (0, 0)) (pK BK227.out)) (below_size pB)); have n1_ := Aside0.mk (pkb BK226.out hb); have n2_ := Aside0.mk (pkb BK227.out hb); have n3_ := Aside0.mk (below_step pB hb); clear BK226; clear BK227; clear HB; have HO230 := n0_; have BK226 := n1_; have BK227 := n2_; have HB := n3_; clear n0_ n1_ n2_ n3_; clear hb ho5))
 go_loopg [3, 4] k (fun kq v3 v4 w' => ∃ (x3_1 : List (S26)) (x4_1 : Int), v4 = .int .i64 x4_1 ∧ Aside0 (minstrelref07_Own.l0 kq x3_1 x4_1 a0_0 a0_1 a0_2 l0_3 = some (r1, r2, r3, r4)) ∧ Aside0 (kq ≤ k) ∧ Aside0 (Kd.R k26 26 w' w.heap.size (fun k_ => k_ ≠ gb226 ∧ k_ ≠ gb227) v3 x3_1) ∧ Aside0 (w'.heap[gb226]? = some (.cells #[.int .i64 a0_0, .int .u64 a0_1, .string a0_2, (.slice A0_3 l0_3.length c0_3)] 26 (0, 0))) ∧ Aside0 (w'.heap[gb227]? = some (.cells #[.int .i64 0, .int .u64 0, .string (⟨#[]⟩ : ByteArray), (.slice none 0 0)] 26 (0, 0))) ∧ Aside0 (Below w.heap.size w w'))
 case atStart => exact ⟨(y228), (0), (by first | rfl | (simp; done) | (simp [*]; done)), H', ⟨Nat.le_refl _⟩, ⟨by (with_reducible repeat (first | apply Kd.R_alloc | apply Kd.R_drewN | apply Kd.R_drew)); exact Kd.R_mono HO230.out (fun _ hk => ⟨hk.1.2, hk.2⟩)⟩, ⟨by (with_reducible repeat (first | refine blk_drewN ?_ _ | refine blk_drew ?_ | refine blk_alloc ?_ _)); exact BK226.out⟩, ⟨by (with_reducible repeat (first | refine blk_drewN ?_ _ | refine blk_drew ?_ | refine blk_alloc ?_ _)); exact BK227.out⟩, ⟨pB⟩⟩
 case round =>
  clear H'
  try clear c2
  try clear p2
  obtain ⟨x3_1, x4_1, rfl, HA, HK1, HO_3, BK226, BK227, HB⟩ := hrel
  cases gk with
  | zero => exact absurd HA.out (by simp [minstrelref07_Own.l0])
  | succ k1 =>
   have H := HA.out
   clear HA
   simp only [minstrelref07_Own.l0] at H
   by_cases c6 : x4_1 < (l0_3.length : Int)
   ·rw [if_pos c6] at H
    have c6b0 : decide (x4_1 < (l0_3.length : Int)) = true := decide_eq_true c6
    clear c6
    by_cases c7 : 0 ≤ x4_1
    ·rw [if_pos c7] at H
     have c7b0 : decide (0 ≤ x4_1) = true := decide_eq_true c7
     clear c7
     replace H := Option.bind_eq_some_iff.mp H
     obtain ⟨⟨t232, t233, t234, t235⟩, A80, H⟩ := H
     replace H : (if x3_1.length < 2513169434916 then (minstrelref07_Own.l0 k1 (x3_1 ++ [(⟨t232, t233, t234, t235⟩ : S26)]) (wrap64 (x4_1 + 1)) a0_0 a0_1 a0_2 l0_3) else (none)) = some (r1, r2, r3, r4) := H
     have A8 := Aside0.mk A80
     clear A80
     by_cases c9 : x3_1.length < 2513169434916
     ·rw [if_pos c9] at H
      have LMc9 := Aside0.mk c9
      clear c9
      obtain ⟨y238, hy238⟩ : ∃ y_ : List (S26), y_ = (x3_1 ++ [(⟨t232, t233, t234, t235⟩ : S26)]) := ⟨_, rfl⟩
      replace H : (minstrelref07_Own.l0 k1 y238 (wrap64 (x4_1 + 1)) a0_0 a0_1 a0_2 l0_3) = some (r1, r2, r3, r4) := by first | (rw [hy238]; with_reducible exact H) | (have H2_ := (Option.bind_some _ _).symm.trans H; rw [hy238]; with_reducible exact H2_) | (have H2_ := (Option.bind_some _ _).symm.trans H; with_reducible exact H2_) | with_reducible exact H | (rw [hy238]; exact H) | exact H
      have Ny238 := Aside0.mk hy238
      clear hy238
      have H' := Aside0.mk H
      clear H
      have hnb10 := NB226_227.out
      have hnc10 := NB227_226.out
      obtain ⟨hcz11_0, hcz11_1, hcz11_2, hcz11_3, hfz11_0, hfz11_1, hfz11_2, hfz11_3⟩ := cf4 BK226.out
      have p231 : 0 ≤ (x4_1 : Int) := pD
      have q231 : x4_1 < (l0_3.length : Int) := pD
      obtain ⟨ad231, A231_3, c231_3, e231, hx231_0, hx231_1, hx231_2, hx231_3, hl231_3, hi231_3⟩ := at_T26 HR0_3.out x4_1 p231 q231
      cases e231
      replace hx231_0 := (HB.out.cell (World.block_lt_of_cell? w _ hx231_0)).trans hx231_0
      replace hx231_1 := (HB.out.cell (World.block_lt_of_cell? w _ hx231_1)).trans hx231_1
      replace hx231_2 := (HB.out.cell (World.block_lt_of_cell? w _ hx231_2)).trans hx231_2
      replace hx231_3 := (HB.out.cell (World.block_lt_of_cell? w _ hx231_3)).trans hx231_3
      have HR231_3 := Aside0.mk hi231_3
      have HC231_3 := Aside0.mk hl231_3
      clear hi231_3 hl231_3
      replace p231 := eq_true p231
      replace q231 := eq_true q231
      go_wp2_with (first | ((with_reducible refine gate_callee (f := 21) rfl ?_); refine goesL_ (some 19) rfl rfl Tryd.func21 (by kernel_rfl) rfl #[.agg #[.int .i64 ((rd_T26 l0_3 x4_1).f0), .int .u64 ((rd_T26 l0_3 x4_1).f1), .string ((rd_T26 l0_3 x4_1).f2), .slice A231_3 ((rd_T26 l0_3 x4_1).f3).length c231_3]] rfl pM ?_; (with_reducible refine (ih k1 (by have := HK1.out; omega) ((rd_T26 l0_3 x4_1).f0) ((rd_T26 l0_3 x4_1).f1) ((rd_T26 l0_3 x4_1).f2) _ _ ((rd_T26 l0_3 x4_1).f3) t232 t233 t234 t235 _ ?side1 ?side2 A8.out).mono ?_); (case side1 => exact pC (Kd.C_below HR231_3.out HB.out)); (case side2 => exact HC231_3.out); rintro e w12 ⟨v236, rfl, ho0, hb⟩; refine ⟨_, rfl, ?_⟩; have n0_ := Aside0.mk (Kd.R_elder' (pR HO_3.out) (Kd.R_base ho0) hb); have n1_ := Aside0.mk (Kd.R_lower (Kd.R_newB (Kd.R_newB (Kd.R_new' ho0 (Kd.R_lt (pR HO_3.out))) (g := gb226) (o := .cells #[.int .i64 a0_0, .int .u64 a0_1, .string a0_2, .slice (some ad231) l0_3.length c0_3] 26 (0, 0)) (pK BK226.out)) (g := gb227) (o := .cells #[.int .i64 0, .int .u64 0, .string (⟨#[]⟩ : ByteArray), .slice none 0 0] 26 (0, 0)) (pK BK227.out)) (below_size pB)); have n2_ := Aside0.mk (pkb BK226.out hb); have n3_ := Aside0.mk (pkb BK227.out hb); have n4_ := Aside0.mk (below_step pB hb); clear HO_3; clear BK226; clear BK227; clear HB; have HO_3 := n0_; have HO237 := n1_; have BK226 := n2_; have BK227 := n3_; have HB := n4_; clear n0_ n1_ n2_ n3_ n4_; (try clear hb); (try clear hb2); (try clear hk); (try clear hi); (try clear ho0); obtain ⟨Ao14, co14, eo14⟩ := Kd.R_slice HO237.out; subst eo14) | ((with_reducible refine gate_builtin (b := .append) (xs := #[.tmp 13, .tmp 20]) rfl ?_); at_builtin; refine Kd.R_append k26 (w0 := w) w.heap.size rfl (.tmp 13) (.tmp 20) 24 26 (.agg #[(.int .i64 0), (.int .u64 0), (.string ⟨#[]⟩), (.slice none 0 0)]) 56 rfl Tryd.underlying24 info26 rfl (by decide) (by omega) u3 x3_1 (⟨t232, t233, t234, t235⟩ : S26) [.int .i64 t232, .int .u64 t233, .string t234, .slice Ao14 t235.length co14] (fun k_ => k_ ≠ gb226 ∧ k_ ≠ gb227) (fun k_ => ((fun k_ => k_ ≠ gb226 ∧ k_ ≠ gb227)) k_ ∧ some k_ ≠ (u3 : Value).ownBlock) rfl rfl ?aP (fun _ hk => hk) ?aF ?aO ?aB ?aS ?aL ?_; (case aP => exact k26_mkM _ _ _ (⟨t232, t233, t234, t235⟩ : S26) (Kd.R_mono (HO237.out) (fun k_ hk => ⟨⟨hk.1.2, hk.2⟩, hk.1.1.2⟩))); (case aB => exact pB); (case aF => exact (fun k_ hk => ⟨Kd.freshB (g := gb226) (o := .cells #[.int .i64 a0_0, .int .u64 a0_1, .string a0_2, .slice (some ad231) l0_3.length c0_3] 26 (0, 0)) (pK BK226.out) k_ hk, Kd.freshB (g := gb227) (o := .cells #[.int .i64 0, .int .u64 0, .string (⟨#[]⟩ : ByteArray), .slice none 0 0] 26 (0, 0)) (pK BK227.out) k_ hk⟩)); (case aO => exact (by (with_reducible repeat (first | apply Kd.R_alloc | apply Kd.R_drewN | apply Kd.R_drew)); exact Kd.R_mono HO_3.out (fun _ hk => ⟨hk.1.1, hk.1.2⟩))); (case aS => exact (below_size pB)); (case aL => have := LMc9.out; omega); intro v239 w13 ho hb hg hat; rw [← Ny238.out] at ho; have n0_ := Aside0.mk (blk_grown (g := gb226) (o := .cells #[.int .i64 a0_0, .int .u64 a0_1, .string a0_2, .slice (some ad231) l0_3.length c0_3] 26 (0, 0)) (pK BK226.out) hg (Kd.R_away HO_3.out (fun _ hk => hk.1.1))); have n1_ := Aside0.mk (blk_grown (g := gb227) (o := .cells #[.int .i64 0, .int .u64 0, .string (⟨#[]⟩ : ByteArray), .slice none 0 0] 26 (0, 0)) (pK BK227.out) hg (Kd.R_away HO_3.out (fun _ hk => hk.1.2))); have n2_ := Aside0.mk (hb); have n3_ := Aside0.mk (ho); clear BK226; clear BK227; clear HB; clear HO_3; clear HO237; have BK226 := n0_; have BK227 := n1_; have HB := n2_; have HO240 := n3_; clear n0_ n1_ n2_ n3_; clear ho hb hg hat))
      go_roundg k1
      case measure => have := HK1.out; omega
      case rel => exact ⟨(y238), (wrap64 (x4_1 + 1)), (by first | rfl | (simp; done) | (simp [*]; done)), H', ⟨by have := HK1.out; omega⟩, ⟨by (with_reducible repeat (first | apply Kd.R_alloc | apply Kd.R_drewN | apply Kd.R_drew)); exact HO240.out⟩, ⟨by (with_reducible repeat (first | refine blk_drewN ?_ _ | refine blk_drew ?_ | refine blk_alloc ?_ _)); exact BK226.out⟩, ⟨by (with_reducible repeat (first | refine blk_drewN ?_ _ | refine blk_drew ?_ | refine blk_alloc ?_ _)); exact BK227.out⟩, ⟨pB⟩⟩
     ·rw [if_neg c9] at H
      exact absurd H (by simp)
    ·rw [if_neg c7] at H
     exact absurd H (by simp)
   ·rw [if_neg c6] at H
    have c6b0 : decide (x4_1 < (l0_3.length : Int)) = false := decide_eq_false c6
    clear c6
    simp only [Option.some.injEq, Prod.mk.injEq] at H
    obtain ⟨rfl, rfl, rfl, rfl⟩ := H
    have hnb15 := NB226_227.out
    have hnc15 := NB227_226.out
    obtain ⟨hcz16_0, hcz16_1, hcz16_2, hcz16_3, hfz16_0, hfz16_1, hfz16_2, hfz16_3⟩ := cf4 BK226.out
    obtain ⟨Ao17, co17, eo17⟩ := Kd.R_slice HO_3.out
    subst eo17
    obtain ⟨hcz18_0, hcz18_1, hcz18_2, hcz18_3, hfz18_0, hfz18_1, hfz18_2, hfz18_3⟩ := cf4 BK227.out
    go_wp2
    refine bodyPost_ret (results_cell_row rfl _ _ gb227 26 #[.int .i64 a0_0, .int .u64 a0_1, .string a0_2, .slice Ao17 x3_1.length co17] (0, 0) _ rfl (by (with_reducible repeat (first | refine blk_drewN ?_ _ | refine blk_drew ?_ | refine blk_alloc ?_ _)); refine blk_put (cs := #[.int .i64 a0_0, .int .u64 a0_1, .string a0_2, .slice none 0 0]) ?_ 3 _ rfl; (with_reducible repeat (first | refine blk_drewN ?_ _ | refine blk_drew ?_ | refine blk_alloc ?_ _)); refine blk_put (cs := #[.int .i64 a0_0, .int .u64 a0_1, .string (⟨#[]⟩ : ByteArray), .slice none 0 0]) ?_ 2 _ rfl; (with_reducible repeat (first | refine blk_drewN ?_ _ | refine blk_drew ?_ | refine blk_alloc ?_ _)); refine blk_put (cs := #[.int .i64 a0_0, .int .u64 0, .string (⟨#[]⟩ : ByteArray), .slice none 0 0]) ?_ 1 _ rfl; (with_reducible repeat (first | refine blk_drewN ?_ _ | refine blk_drew ?_ | refine blk_alloc ?_ _)); refine blk_put (cs := #[.int .i64 0, .int .u64 0, .string (⟨#[]⟩ : ByteArray), .slice none 0 0]) ?_ 0 _ rfl; (with_reducible repeat (first | refine blk_drewN ?_ _ | refine blk_drew ?_ | refine blk_alloc ?_ _)); refine blk_far ?_ NB227_226.out _; (with_reducible repeat (first | refine blk_drewN ?_ _ | refine blk_drew ?_ | refine blk_alloc ?_ _)); exact BK227.out) Tryd.underlying26 rfl (by kernel_rfl)) rfl ?_
    exact ⟨_, pE, by (with_reducible repeat (first | apply Kd.R_alloc | apply Kd.R_drewN | apply Kd.R_drew)); exact Kd.R_mono (Kd.R_far (p := ⟨gb227, 3, none⟩) (Kd.R_far (p := ⟨gb227, 2, none⟩) (Kd.R_far (p := ⟨gb227, 1, none⟩) (Kd.R_far (p := ⟨gb227, 0, none⟩) (Kd.R_far (p := ⟨gb226, 3, none⟩) (Kd.R_mono (Kd.R_mono HO_3.out (fun k_ hk => (⟨hk, hk.1⟩ : _ ∧ k_ ≠ gb226))) (fun k_ hk => (⟨hk, hk.1.2⟩ : _ ∧ k_ ≠ gb227))) (fun _ hk => hk.1.2) (.slice Ao17 x3_1.length co17)) (fun _ hk => hk.2) (.int .i64 a0_0)) (fun _ hk => hk.2) (.int .u64 a0_1)) (fun _ hk => hk.2) (.string a0_2)) (fun _ hk => hk.2) (.slice Ao17 x3_1.length co17)) (fun _ hk => trivial), pB⟩
def minstrellaw19_own.f (k : Nat) (a0_0 : Int) (a0_1 : Int) (l0_2 : List Int) (a0_3 : Int) (a0_4 : Int) (a0_5 : ByteArray) (l0_6 : List (S26)) (a0_7 : Int) (a0_8 : Int) (a0_9 : ByteArray) (l0_10 : List (S26)) : Option (Int × Int × List Int × Int × Int × ByteArray × (List (S26)) × Int × Int × ByteArray × (List (S26))) := (some (([] : List Int) : List Int)).bind fun y243 => (if y243.length + l0_2.length < 17592186044416 then ((minstrelref07_Own.f k a0_3 a0_4 a0_5 l0_6).bind fun bt249 => ((minstrelref07_Own.f k a0_7 a0_8 a0_9 l0_10).bind fun bt255 => (some (a0_0, a0_1, (y243 ++ l0_2), bt249.1, bt249.2.1, bt249.2.2.1, bt249.2.2.2, bt255.1, bt255.2.1, bt255.2.2.1, bt255.2.2.2)))) else (none))
theorem minstrellaw19_own.mono : ∀ a0 a1 a2 a3 a4 a5 a6 a7 a8 a9 a10 k, LeO (minstrellaw19_own.f k a0 a1 a2 a3 a4 a5 a6 a7 a8 a9 a10) (minstrellaw19_own.f (k + 1) a0 a1 a2 a3 a4 a5 a6 a7 a8 a9 a10) := by
 intro a0 a1 a2 a3 a4 a5 a6 a7 a8 a9 a10 k
 unfold minstrellaw19_own.f
 repeat' first
   | (with_reducible exact minstrelref07_Own.mono _ _ _ _ _)
   | (with_reducible exact LeO.refl _)
   | (with_reducible exact LeO.none _)
   | (with_reducible refine LeO.ite ?_ ?_)
   | (with_reducible refine LeO.bind ?_ (fun _ => ?_))
   | exact minstrelref07_Own.mono _ _ _ _ _
   | exact LeO.none _
   | refine LeO.ite ?_ ?_
   | refine LeO.bind ?_ (fun _ => ?_)
def minstrellaw19_own.T1 : Bool × List (List Nat × List Nat) := (true, [([], []), ([], []), ([1], [1]), ([0, 2], [0, 2]), ([], []), ([4], [4]), ([5, 3], [5]), ([], []), ([7], [7]), ([8, 6], [8]), ([0, 1, 2, 3, 4, 5, 7, 8], []), ([10, 3, 9, 0, 1, 2, 3, 4, 5, 7, 8], [3, 10]), ([0, 1, 2, 3, 4, 5, 6, 7, 8, 10, 11], []), ([12, 6, 11, 0, 1, 2, 3, 4, 5, 6, 7, 8, 10, 11], [6, 12]), ([0, 1, 2, 3, 4, 5, 6, 7, 8, 9, 10, 11, 12, 13], []), ([14, 9, 13, 0, 1, 2, 3, 4, 5, 6, 7, 8, 9, 10, 11, 12, 13], [9, 14])])
def minstrellaw19_own.B1 : List Nat := [0, 0, 2, 7, 0, 16, 63, 0, 128, 511, 447, 2047, 4095, 8191, 16383, 32767]
theorem minstrellaw19_own.tab1 : rtab .any (opsOf Tryd.f10 1) = minstrellaw19_own.T1 := by kernel_rfl
theorem minstrellaw19_own.bits1 : waitsOk minstrellaw19_own.T1.2 minstrellaw19_own.B1 = true := by kernel_rfl
set_option maxHeartbeats 8000000 in
set_option maxRecDepth 100000 in
theorem minstrellaw19_own.calls (k : Nat) (a0_0 : Int) (a0_1 : Int) (A0_2 : Option Addr) (c0_2 : Nat) (l0_2 : List Int) (a0_3 : Int) (a0_4 : Int) (a0_5 : ByteArray) (A0_6 : Option Addr) (c0_6 : Nat) (l0_6 : List (S26)) (a0_7 : Int) (a0_8 : Int) (a0_9 : ByteArray) (A0_10 : Option Addr) (c0_10 : Nat) (l0_10 : List (S26)) (r1 : Int) (r2 : Int) (r3 : List Int) (r4 : Int) (r5 : Int) (r6 : ByteArray) (r7 : List (S26)) (r8 : Int) (r9 : Int) (r10 : ByteArray) (r11 : List (S26)) (w : World) (hr0_2 : Kd.C (Kd.int .i64) w A0_2 l0_2.length l0_2) (hc0_2 : l0_2.length ≤ c0_2) (hr0_6 : Kd.C k26 w A0_6 l0_6.length l0_6) (hc0_6 : l0_6.length ≤ c0_6) (hr0_10 : Kd.C k26 w A0_10 l0_10.length l0_10) (hc0_10 : l0_10.length ≤ c0_10) (h : minstrellaw19_own.f k a0_0 a0_1 l0_2 a0_3 a0_4 a0_5 l0_6 a0_7 a0_8 a0_9 l0_10 = some (r1, r2, r3, r4, r5, r6, r7, r8, r9, r10, r11)) :
  Calls Tryd.prog 10 #[.agg #[.int .u64 a0_0, .int .u64 a0_1, .slice A0_2 l0_2.length c0_2, .int .i64 a0_3, .int .u64 a0_4, .string a0_5, .slice A0_6 l0_6.length c0_6, .int .i64 a0_7, .int .u64 a0_8, .string a0_9, .slice A0_10 l0_10.length c0_10]] w fun e w' => ∃ v2_ v6_ v10_ : Value, e = .returned (.agg #[.int .u64 r1, .int .u64 r2, v2_, .int .i64 r4, .int .u64 r5, .string r6, v6_, .int .i64 r8, .int .u64 r9, .string r10, v10_]) ∧ Kd.R (Kd.int .i64) 3 w' w.heap.size (fun _ => True) v2_ r3 ∧ Kd.R k26 26 w' w.heap.size (fun k_ => some k_ ≠ (v10_ : Value).ownBlock) v6_ r7 ∧ Kd.R k26 26 w' w.heap.size (fun k_ => some k_ ≠ (v6_ : Value).ownBlock) v10_ r11 ∧ Below w.heap.size w w' := by
 have hu28 := Tryd.underlying28
 have hu26 := Tryd.underlying26
 have HR0_2 := Aside0.mk hr0_2
 have HC0_2 := Aside0.mk hc0_2
 clear hr0_2 hc0_2
 have HR0_6 := Aside0.mk hr0_6
 have HC0_6 := Aside0.mk hc0_6
 clear hr0_6 hc0_6
 have HR0_10 := Aside0.mk hr0_10
 have HC0_10 := Aside0.mk hc0_10
 clear hr0_10 hc0_10
 have HB := Aside0.mk (Below.refl w.heap.size w)
 have H : ((some (([] : List Int) : List Int)).bind fun y243 => (if y243.length + l0_2.length < 17592186044416 then ((minstrelref07_Own.f k a0_3 a0_4 a0_5 l0_6).bind fun bt249 => ((minstrelref07_Own.f k a0_7 a0_8 a0_9 l0_10).bind fun bt255 => (some (a0_0, a0_1, (y243 ++ l0_2), bt249.1, bt249.2.1, bt249.2.2.1, bt249.2.2.2, bt255.1, bt255.2.1, bt255.2.2.1, bt255.2.2.2)))) else (none))) = some (r1, r2, r3, r4, r5, r6, r7, r8, r9, r10, r11) := h
 clear h
 obtain ⟨y243, hy243⟩ : ∃ y_ : List Int, y_ = (([] : List Int)) := ⟨_, rfl⟩
 replace H : (if y243.length + l0_2.length < 17592186044416 then ((minstrelref07_Own.f k a0_3 a0_4 a0_5 l0_6).bind fun bt249 => ((minstrelref07_Own.f k a0_7 a0_8 a0_9 l0_10).bind fun bt255 => (some (a0_0, a0_1, (y243 ++ l0_2), bt249.1, bt249.2.1, bt249.2.2.1, bt249.2.2.2, bt255.1, bt255.2.1, bt255.2.2.1, bt255.2.2.2)))) else (none)) = some (r1, r2, r3, r4, r5, r6, r7, r8, r9, r10, r11) := by first | (rw [hy243]; with_reducible exact H) | (have H2_ := (Option.bind_some _ _).symm.trans H; rw [hy243]; with_reducible exact H2_) | (have H2_ := (Option.bind_some _ _).symm.trans H; with_reducible exact H2_) | with_reducible exact H | (rw [hy243]; exact H) | exact H
 have Ny243 := Aside0.mk hy243
 clear hy243
 by_cases c2 : y243.length + l0_2.length < 17592186044416
 ·rw [if_pos c2] at H
  have LMc2 := Aside0.mk c2
  clear c2
  obtain ⟨y246, hy246⟩ : ∃ y_ : List Int, y_ = (y243 ++ l0_2) := ⟨_, rfl⟩
  replace H : ((minstrelref07_Own.f k a0_3 a0_4 a0_5 l0_6).bind fun bt249 => ((minstrelref07_Own.f k a0_7 a0_8 a0_9 l0_10).bind fun bt255 => (some (a0_0, a0_1, y246, bt249.1, bt249.2.1, bt249.2.2.1, bt249.2.2.2, bt255.1, bt255.2.1, bt255.2.2.1, bt255.2.2.2)))) = some (r1, r2, r3, r4, r5, r6, r7, r8, r9, r10, r11) := by first | (rw [hy246]; with_reducible exact H) | (have H2_ := (Option.bind_some _ _).symm.trans H; rw [hy246]; with_reducible exact H2_) | (have H2_ := (Option.bind_some _ _).symm.trans H; with_reducible exact H2_) | with_reducible exact H | (rw [hy246]; exact H) | exact H
  have Ny246 := Aside0.mk hy246
  clear hy246
  replace H := Option.bind_eq_some_iff.mp H
  obtain ⟨⟨t249, t250, t251, t252⟩, A30, H⟩ := H
  replace H : ((minstrelref07_Own.f k a0_7 a0_8 a0_9 l0_10).bind fun bt255 => (some (a0_0, a0_1, y246, t249, t250, t251, t252, bt255.1, bt255.2.1, bt255.2.2.1, bt255.2.2.2))) = some (r1, r2, r3, r4, r5, r6, r7, r8, r9, r10, r11) := H
  have A3 := Aside0.mk A30
  clear A30
  replace H := Option.bind_eq_some_iff.mp H
  obtain ⟨⟨t255, t256, t257, t258⟩, A40, H⟩ := H
  replace H : (some (a0_0, a0_1, y246, t249, t250, t251, t252, t255, t256, t257, t258)) = some (r1, r2, r3, r4, r5, r6, r7, r8, r9, r10, r11) := H
  have A4 := Aside0.mk A40
  clear A40
  simp only [Option.some.injEq, Prod.mk.injEq] at H
  obtain ⟨rfl, rfl, rfl, rfl, rfl, rfl, rfl, rfl, rfl, rfl, rfl⟩ := H
  go_enter Tryd.func10, Tryd.ntmps10
  try go_wp2_with (first | ((with_reducible refine gate_dst (N := 1) rfl ?_); refine box_event ?hg (N := 1) ?hd (cs := #[.int .u64 a0_0, .int .u64 a0_1, .slice A0_2 l0_2.length c0_2, .int .i64 a0_3, .int .u64 a0_4, .string a0_5, .slice A0_6 l0_6.length c0_6, .int .i64 a0_7, .int .u64 a0_8, .string a0_9, .slice A0_10 l0_10.length c0_10]) (t := 28) ?hr ?_; (case hd => rfl); (case hg => rfl); (case hr => first | (go_simp; done) | (go_simp; rfl)); intro gb241 hg w5 hbox hb; have n0_ := Aside0.mk (below_step pB hb); have n1_ := Aside0.mk (hbox); have n2_ := Aside0.mk ((by rw [hg]; exact (below_size pB) : w.heap.size ≤ gb241)); have n3_ := Aside0.mk ((by rw [hg]; exact (below_size pB) : w.heap.size ≤ gb241)); clear HB; have HB := n0_; have BK241 := n1_; have GW241 := n2_; have GE241 := n3_; clear n0_ n1_ n2_ n3_; clear hb hbox hg) | ((with_reducible refine gate_dst (N := 2) rfl ?_); refine box_event ?hg (N := 2) ?hd (cs := #[.int .u64 0, .int .u64 0, .slice none 0 0, .int .i64 0, .int .u64 0, .string (⟨#[]⟩ : ByteArray), .slice none 0 0, .int .i64 0, .int .u64 0, .string (⟨#[]⟩ : ByteArray), .slice none 0 0]) (t := 28) ?hr ?_; (case hd => rfl); (case hg => rfl); (case hr => first | (go_simp; done) | (go_simp; rfl)); intro gb242 hg w6 hbox hb; have n0_ := Aside0.mk (pkb BK241.out hb); have n1_ := Aside0.mk (below_step pB hb); have n2_ := Aside0.mk (hbox); have n3_ := Aside0.mk ((by rw [hg]; exact (below_size pB) : w.heap.size ≤ gb242)); have n4_ := Aside0.mk ((by rw [hg]; exact (below_size pB) : w.heap.size ≤ gb242)); have n5_ := Aside0.mk ((by rw [hg]; exact Nat.ne_of_lt (pkl BK241.out) : gb241 ≠ gb242)); have n6_ := Aside0.mk ((by rw [hg]; exact Nat.ne_of_gt (pkl BK241.out) : gb242 ≠ gb241)); clear BK241; clear HB; have BK241 := n0_; have HB := n1_; have BK242 := n2_; have GW242 := n3_; have GE242 := n4_; have NB241_242 := n5_; have NB242_241 := n6_; clear n0_ n1_ n2_ n3_ n4_ n5_ n6_; clear hb hbox hg))
  have n0_ := Aside0.mk (blk_drew BK241.out)
  have n1_ := Aside0.mk (blk_drew BK242.out)
  have n2_ := Aside0.mk (below_drew1 HB.out)
  clear BK241 BK242 HB; have BK241 := n0_; have BK242 := n1_; have HB := n2_; clear n0_ n1_ n2_
  refine start_ (n := 16) (S := fun w' => w'.cell? ⟨gb241, 0, none⟩ = some (.int .u64 a0_0) ∧ w'.cell? ⟨gb241, 1, none⟩ = some (.int .u64 a0_1) ∧ w'.cell? ⟨gb241, 2, none⟩ = some (.slice A0_2 l0_2.length c0_2) ∧ w'.cell? ⟨gb241, 3, none⟩ = some (.int .i64 a0_3) ∧ w'.cell? ⟨gb241, 4, none⟩ = some (.int .u64 a0_4) ∧ w'.cell? ⟨gb241, 5, none⟩ = some (.string a0_5) ∧ w'.cell? ⟨gb241, 6, none⟩ = some (.slice A0_6 l0_6.length c0_6) ∧ w'.cell? ⟨gb241, 7, none⟩ = some (.int .i64 a0_7) ∧ w'.cell? ⟨gb241, 8, none⟩ = some (.int .u64 a0_8) ∧ w'.cell? ⟨gb241, 9, none⟩ = some (.string a0_9) ∧ w'.cell? ⟨gb241, 10, none⟩ = some (.slice A0_10 l0_10.length c0_10)) (ds := [11, 13, 15]) #[false, false, false, false, false, false, false, false, false, false, false, false, false, false, false, false] (by kernel_rfl) rfl rfl ⟨cz0 BK241.out, cz1 BK241.out, cz2 BK241.out, cz3 BK241.out, cz4 BK241.out, cz5 BK241.out, cz6 BK241.out, cz7 BK241.out, cz8 BK241.out, cz9 BK241.out, cz10 BK241.out⟩ (fun hHeld => ?_); refine with_tabW minstrellaw19_own.tab1 minstrellaw19_own.bits1 (fun HT_ HW_ => ?_)
  generalize w6.drew = w7 at BK241 BK242 HB hHeld ⊢
  refine pure_ (i := 1) (N := some 4) (v := ?_) (a' := ?_) #[false, true, false, false, false, false, false, false, false, false, false, false, false, false, false, false] rfl rfl (any_of HT_.out (by kernel_rfl)) (fun _ _ _ h => h) (Or.inl ⟨by kernel_rfl, ?_⟩) ?_ ?_
  rotate_left
  ·intro w'
   go_simp
   with_reducible rfl
  rotate_left
  ·exact pA
  refine pure_ (i := 4) (N := some 7) (v := ?_) (a' := ?_) #[false, true, false, false, true, false, false, false, false, false, false, false, false, false, false, false] rfl rfl (any_of HT_.out (by kernel_rfl)) (fun _ _ _ h => h) (Or.inl ⟨by kernel_rfl, ?_⟩) ?_ ?_
  rotate_left
  ·intro w'
   go_simp
   with_reducible rfl
  rotate_left
  ·exact pA
  refine pure_ (i := 7) (N := some 10) (v := ?_) (a' := ?_) #[false, true, false, false, true, false, false, true, false, false, false, false, false, false, false, false] rfl rfl (any_of HT_.out (by kernel_rfl)) (fun _ _ _ h => h) (Or.inl ⟨by kernel_rfl, ?_⟩) ?_ ?_
  rotate_left
  ·intro w'
   go_simp
   with_reducible rfl
  rotate_left
  ·exact pA
  refine take_ (i := 2) (N := some 5) (v := ?_) (a' := ?_) #[false, true, true, false, true, false, false, true, false, false, false, false, false, false, false, false] rfl rfl (take_ofW HT_.out HW_.out (by kernel_rfl)) (fun _ _ _ h => h) (Or.inl ⟨by kernel_rfl, ?_⟩) hHeld ?_ ?_
  rotate_left
  ·rintro w' ⟨s0, s1, s2, s3, s4, s5, s6, s7, s8, s9, s10⟩
   go_simp
   with_reducible rfl
  rotate_left
  ·exact pA
  refine take_ (i := 5) (N := some 8) (v := ?_) (a' := ?_) #[false, true, true, false, true, true, false, true, false, false, false, false, false, false, false, false] rfl rfl (take_ofW HT_.out HW_.out (by kernel_rfl)) (fun _ _ _ h => h) (Or.inl ⟨by kernel_rfl, ?_⟩) hHeld ?_ ?_
  rotate_left
  ·rintro w' ⟨s0, s1, s2, s3, s4, s5, s6, s7, s8, s9, s10⟩
   go_simp
   with_reducible rfl
  rotate_left
  ·exact pA
  refine take_ (i := 8) (N := some 11) (v := ?_) (a' := ?_) #[false, true, true, false, true, true, false, true, true, false, false, false, false, false, false, false] rfl rfl (take_ofW HT_.out HW_.out (by kernel_rfl)) (fun _ _ _ h => h) (Or.inl ⟨by kernel_rfl, ?_⟩) hHeld ?_ ?_
  rotate_left
  ·rintro w' ⟨s0, s1, s2, s3, s4, s5, s6, s7, s8, s9, s10⟩
   go_simp
   with_reducible rfl
  rotate_left
  ·exact pA
  refine one_ (i := 0) (N := some 3) #[true, true, true, false, true, true, false, true, true, false, false, false, false, false, false, false] rfl rfl (one_of HT_.out (by kernel_rfl)) (by decide) (fun K hK => ?_)
  refine Kd.R_lit_step (Kd.int .i64) _ 3 ?hg (N := 3) ?hd (xs := ([] : List Int)) (inner := []) (ok := fun _ => True) (okp := fun _ => True) ?hr ?hp (fun _ hk => hk) trivial (Below.refl _ _) (Nat.le_refl _) (by simp) ?_; (case hd => rfl); (case hg => rfl); (case hr => first | (go_simp; done) | (go_simp; rfl)); (case hp => exact (Reps.none _ _))
  intro v244 w8 ho9 hb hg_ hnew_
  clear hg_ hnew_
  (first | rw [← Ny243.out] at ho9 | (simp only [Int.reduceToNat] at ho9; rw [← Ny243.out] at ho9))
  have n0_ := Aside0.mk (Kd.R_lower ho9 (below_size pB))
  have n1_ := Aside0.mk (pkb BK241.out hb)
  have n2_ := Aside0.mk (pkb BK242.out hb)
  have n3_ := Aside0.mk (below_step pB hb)
  clear BK241 BK242 HB; have HO245 := n0_; have BK241 := n1_; have BK242 := n2_; have HB := n3_; clear n0_ n1_ n2_ n3_ hb ho9
  refine hK.out _ _ ⟨cz0 BK241.out, cz1 BK241.out, cz2 BK241.out, cz3 BK241.out, cz4 BK241.out, cz5 BK241.out, cz6 BK241.out, cz7 BK241.out, cz8 BK241.out, cz9 BK241.out, cz10 BK241.out⟩ (fun hHeld => ?_)
  clear hK K
  refine norm_ (a' := ?_) ?_ ?_
  rotate_left
  ·show Act.put _ (some 3) _ = _
   exact pA
  refine one_ (i := 3) (N := some 6) #[true, true, true, true, true, true, false, true, true, false, false, false, false, false, false, false] rfl rfl (one_of HT_.out (by kernel_rfl)) (by decide) (fun K hK => ?_)
  refine Kd.R_append_rows_step (Kd.int .i64) (w0 := w) w.heap.size (by rfl) (.tmp 3) (.tmp 5) 23 3 (.int .i64 0) 8 rfl Tryd.underlying23 info3 rfl (by decide) (by omega) v244 y243 l0_2 _ _ _ (fun _ => True) (fun _ => False) rfl rfl ?aO ?aR (fun _ _ h => h) (fun _ h => h.elim) ?aF ?aB ?aS ?aL ?_
  (case aR => exact pC (Kd.C_below HR0_2.out HB.out))
  (case aB => exact pB)
  (case aF => exact (fun _ _ => trivial))
  (case aO => exact (pR HO245.out))
  (case aS => exact (below_size pB))
  (case aL => have := LMc2.out; omega)
  intro v247 w10 ho hb hg hat
  rw [← Ny246.out] at ho
  have n0_ := Aside0.mk (blk_grown (g := gb241) (o := .cells #[.int .u64 a0_0, .int .u64 a0_1, .slice A0_2 l0_2.length c0_2, .int .i64 a0_3, .int .u64 a0_4, .string a0_5, .slice A0_6 l0_6.length c0_6, .int .i64 a0_7, .int .u64 a0_8, .string a0_9, .slice A0_10 l0_10.length c0_10] 28 (0, 0)) (pK BK241.out) hg (pX HO245.out BK241.out))
  have n1_ := Aside0.mk (blk_grown (g := gb242) (o := .cells #[.int .u64 0, .int .u64 0, .slice none 0 0, .int .i64 0, .int .u64 0, .string (⟨#[]⟩ : ByteArray), .slice none 0 0, .int .i64 0, .int .u64 0, .string (⟨#[]⟩ : ByteArray), .slice none 0 0] 28 (0, 0)) (pK BK242.out) hg (pX HO245.out BK242.out))
  have n2_ := Aside0.mk (hb)
  have n3_ := Aside0.mk (ho)
  clear BK241 BK242 HB HO245; have BK241 := n0_; have BK242 := n1_; have HB := n2_; have HO248 := n3_; clear n0_ n1_ n2_ n3_ ho hb hg hat
  refine hK.out _ _ ⟨cz0 BK241.out, cz1 BK241.out, cz2 BK241.out, cz3 BK241.out, cz4 BK241.out, cz5 BK241.out, cz6 BK241.out, cz7 BK241.out, cz8 BK241.out, cz9 BK241.out, cz10 BK241.out⟩ (fun hHeld => ?_)
  clear hK K
  refine norm_ (a' := ?_) ?_ ?_
  rotate_left
  ·show Act.put _ (some 6) _ = _
   exact pA
  refine pure_ (i := 10) (N := some 13) (v := ?_) (a' := ?_) #[true, true, true, true, true, true, false, true, true, false, true, false, false, false, false, false] rfl rfl (any_of HT_.out (by kernel_rfl)) (fun _ _ _ h => h) (Or.inl ⟨by kernel_rfl, ?_⟩) ?_ ?_
  rotate_left
  ·intro w'
   go_simp
   with_reducible rfl
  rotate_left
  ·exact pA
  refine one_ (i := 6) (N := some 9) #[true, true, true, true, true, true, true, true, true, false, true, false, false, false, false, false] rfl rfl (one_of HT_.out (by kernel_rfl)) (by decide) (fun K hK => ?_)
  refine goes_ Tryd.func21 (by kernel_rfl) rfl #[.agg #[.int .i64 a0_3, .int .u64 a0_4, .string a0_5, .slice A0_6 l0_6.length c0_6]] (by rfl) rfl rfl pM ?_
  with_reducible refine (minstrelref07_Own.calls k a0_3 a0_4 a0_5 _ _ l0_6 t249 t250 t251 t252 _ ?side1 ?side2 A3.out).mono ?_
  (case side1 => exact pC (Kd.C_below HR0_6.out HB.out))
  (case side2 => exact HC0_6.out)
  rintro e w11 ⟨v253, rfl, ho0, hb⟩
  refine ⟨_, rfl, ?_⟩
  have n0_ := Aside0.mk (Kd.R_below (pR HO248.out) hb)
  have n1_ := Aside0.mk (Kd.R_lower ho0 (below_size pB))
  have n2_ := Aside0.mk (pkb BK241.out hb)
  have n3_ := Aside0.mk (pkb BK242.out hb)
  have n4_ := Aside0.mk (below_step pB hb)
  clear HO248 BK241 BK242 HB; have HO248 := n0_; have HO254 := n1_; have BK241 := n2_; have BK242 := n3_; have HB := n4_; clear n0_ n1_ n2_ n3_ n4_; (try clear hb); (try clear hb2); (try clear hk); (try clear hi); (try clear ho0)
  refine hK.out _ _ ⟨cz0 BK241.out, cz1 BK241.out, cz2 BK241.out, cz3 BK241.out, cz4 BK241.out, cz5 BK241.out, cz6 BK241.out, cz7 BK241.out, cz8 BK241.out, cz9 BK241.out, cz10 BK241.out⟩ (fun hHeld => ?_)
  clear hK K
  refine norm_ (a' := ?_) ?_ ?_
  rotate_left
  ·show Act.put _ (some 9) _ = _
   exact pA
  refine one_ (i := 9) (N := some 12) #[true, true, true, true, true, true, true, true, true, true, true, false, false, false, false, false] rfl rfl (one_of HT_.out (by kernel_rfl)) (by decide) (fun K hK => ?_)
  refine goes_ Tryd.func21 (by kernel_rfl) rfl #[.agg #[.int .i64 a0_7, .int .u64 a0_8, .string a0_9, .slice A0_10 l0_10.length c0_10]] (by rfl) rfl rfl pM ?_
  with_reducible refine (minstrelref07_Own.calls k a0_7 a0_8 a0_9 _ _ l0_10 t255 t256 t257 t258 _ ?side1 ?side2 A4.out).mono ?_
  (case side1 => exact pC (Kd.C_below HR0_10.out HB.out))
  (case side2 => exact HC0_10.out)
  rintro e w12 ⟨v259, rfl, ho0, hb⟩
  refine ⟨_, rfl, ?_⟩
  have n0_ := Aside0.mk (Kd.R_below (pR HO248.out) hb)
  have n1_ := Aside0.mk (Kd.R_elder' (pR HO254.out) (Kd.R_base ho0) hb)
  have n2_ := Aside0.mk (Kd.R_lower (Kd.R_new' ho0 (Kd.R_lt (pR HO254.out))) (below_size pB))
  have n3_ := Aside0.mk (pkb BK241.out hb)
  have n4_ := Aside0.mk (pkb BK242.out hb)
  have n5_ := Aside0.mk (below_step pB hb)
  clear HO248 HO254 BK241 BK242 HB; have HO248 := n0_; have HO254 := n1_; have HO260 := n2_; have BK241 := n3_; have BK242 := n4_; have HB := n5_; clear n0_ n1_ n2_ n3_ n4_ n5_; (try clear hb); (try clear hb2); (try clear hk); (try clear hi); (try clear ho0)
  obtain ⟨Ao13, co13, eo13⟩ := Kd.R_slice HO248.out
  (first | subst eo13 | (injection eo13 with f1_ f2_ f3_; have f4_ := f1_.symm; have f5_ := f3_.symm; clear f1_ f2_ f3_; subst f4_; subst f5_))
  obtain ⟨Ao18, co18, eo18⟩ := Kd.R_slice HO254.out
  (first | subst eo18 | (injection eo18 with f1_ f2_ f3_; have f4_ := f1_.symm; have f5_ := f3_.symm; clear f1_ f2_ f3_; subst f4_; subst f5_))
  obtain ⟨Ao23, co23, eo23⟩ := Kd.R_slice HO260.out
  (first | subst eo23 | (injection eo23 with f1_ f2_ f3_; have f4_ := f1_.symm; have f5_ := f3_.symm; clear f1_ f2_ f3_; subst f4_; subst f5_))
  refine hK.out _ _ ⟨cz0 BK241.out, cz1 BK241.out, cz2 BK241.out, cz3 BK241.out, cz4 BK241.out, cz5 BK241.out, cz6 BK241.out, cz7 BK241.out, cz8 BK241.out, cz9 BK241.out, cz10 BK241.out⟩ (fun hHeld => ?_)
  clear hK K
  refine norm_ (a' := ?_) ?_ ?_
  rotate_left
  ·show Act.put _ (some 12) _ = _
   exact pA
  refine last_ (i := 11) (N := none) #[true, true, true, true, true, true, true, true, true, true, true, true, false, false, false, false] rfl rfl (one_of HT_.out (by kernel_rfl)) (by decide) (fun K hK => ?_)
  have hs14 : w12.cell? ⟨gb241, 2, none⟩ = some (.slice A0_2 l0_2.length c0_2) := cz2 BK241.out
  have hfs14 := blk_frozen BK241.out 2
  have hns14_1 := NB242_241.out
  have hms14_1 := NB241_242.out
  refine skip_ (w1 := ?_) ?hw rfl ?_ ?_; (case hw => kernel_rfl)
  rotate_left
  ·go_simp
   rfl
  refine hK.out _ _ ?_
  clear hK K
  refine pure_ (i := 12) (N := some 14) (v := ?_) (a' := ?_) #[true, true, true, true, true, true, true, true, true, true, true, true, true, false, false, false] rfl rfl (any_of HT_.out (by kernel_rfl)) (fun _ _ _ h => h) (Or.inl ⟨by kernel_rfl, ?_⟩) ?_ ?_
  rotate_left
  ·intro w'
   go_simp
   with_reducible rfl
  rotate_left
  ·exact pA
  refine last_ (i := 13) (N := none) #[true, true, true, true, true, true, true, true, true, true, true, true, true, true, false, false] rfl rfl (one_of HT_.out (by kernel_rfl)) (by decide) (fun K hK => ?_)
  have hs15 : w12.cell? ⟨gb241, 3, none⟩ = some (.int .i64 a0_3) := cz3 BK241.out
  have hfs15 := blk_frozen BK241.out 3
  have hns15_1 := NB242_241.out
  have hms15_1 := NB241_242.out
  have hs16 : w12.cell? ⟨gb241, 4, none⟩ = some (.int .u64 a0_4) := cz4 BK241.out
  have hfs16 := blk_frozen BK241.out 4
  have hns16_1 := NB242_241.out
  have hms16_1 := NB241_242.out
  have hs17 : w12.cell? ⟨gb241, 5, none⟩ = some (.string a0_5) := cz5 BK241.out
  have hfs17 := blk_frozen BK241.out 5
  have hns17_1 := NB242_241.out
  have hms17_1 := NB241_242.out
  have hs19 : w12.cell? ⟨gb241, 6, none⟩ = some (.slice A0_6 l0_6.length c0_6) := cz6 BK241.out
  have hfs19 := blk_frozen BK241.out 6
  have hns19_1 := NB242_241.out
  have hms19_1 := NB241_242.out
  refine skip_ (w1 := ?_) ?hw rfl ?_ ?_; (case hw => kernel_rfl)
  rotate_left
  ·go_simp
   rfl
  refine hK.out _ _ ?_
  clear hK K
  refine pure_ (i := 14) (N := some 15) (v := ?_) (a' := ?_) #[true, true, true, true, true, true, true, true, true, true, true, true, true, true, true, false] rfl rfl (any_of HT_.out (by kernel_rfl)) (fun _ _ _ h => h) (Or.inl ⟨by kernel_rfl, ?_⟩) ?_ ?_
  rotate_left
  ·intro w'
   go_simp
   with_reducible rfl
  rotate_left
  ·exact pA
  refine last_ (i := 15) (N := none) #[true, true, true, true, true, true, true, true, true, true, true, true, true, true, true, true] rfl rfl (one_of HT_.out (by kernel_rfl)) (by decide) (fun K hK => ?_)
  have hs20 : w12.cell? ⟨gb241, 7, none⟩ = some (.int .i64 a0_7) := cz7 BK241.out
  have hfs20 := blk_frozen BK241.out 7
  have hns20_1 := NB242_241.out
  have hms20_1 := NB241_242.out
  have hs21 : w12.cell? ⟨gb241, 8, none⟩ = some (.int .u64 a0_8) := cz8 BK241.out
  have hfs21 := blk_frozen BK241.out 8
  have hns21_1 := NB242_241.out
  have hms21_1 := NB241_242.out
  have hs22 : w12.cell? ⟨gb241, 9, none⟩ = some (.string a0_9) := cz9 BK241.out
  have hfs22 := blk_frozen BK241.out 9
  have hns22_1 := NB242_241.out
  have hms22_1 := NB241_242.out
  have hs24 : w12.cell? ⟨gb241, 10, none⟩ = some (.slice A0_10 l0_10.length c0_10) := cz10 BK241.out
  have hfs24 := blk_frozen BK241.out 10
  have hns24_1 := NB242_241.out
  have hms24_1 := NB241_242.out
  refine skip_ (w1 := ?_) ?hw rfl ?_ ?_; (case hw => kernel_rfl)
  rotate_left
  ·go_simp
   rfl
  refine hK.out _ _ ?_
  clear hK K
  refine done_ (done_of HT_.out (by kernel_rfl)) ?_
  have hnb25 := NB241_242.out
  have hnc25 := NB242_241.out
  obtain ⟨hcz26_0, hcz26_1, hcz26_2, hcz26_3, hcz26_4, hcz26_5, hcz26_6, hcz26_7, hcz26_8, hcz26_9, hcz26_10, hfz26_0, hfz26_1, hfz26_2, hfz26_3, hfz26_4, hfz26_5, hfz26_6, hfz26_7, hfz26_8, hfz26_9, hfz26_10⟩ := cf11 BK241.out
  obtain ⟨hcz27_0, hcz27_1, hcz27_2, hcz27_3, hcz27_4, hcz27_5, hcz27_6, hcz27_7, hcz27_8, hcz27_9, hcz27_10, hfz27_0, hfz27_1, hfz27_2, hfz27_3, hfz27_4, hfz27_5, hfz27_6, hfz27_7, hfz27_8, hfz27_9, hfz27_10⟩ := cf11 BK242.out
  try go_wp2
  refine bodyPost_ret (results_cell_row rfl _ _ gb242 28 #[.int .u64 a0_0, .int .u64 a0_1, .slice Ao13 y246.length co13, .int .i64 t249, .int .u64 t250, .string t251, .slice Ao18 t252.length co18, .int .i64 t255, .int .u64 t256, .string t257, .slice Ao23 t258.length co23] (0, 0) _ rfl (by (with_reducible repeat (first | refine blk_drewN ?_ _ | refine blk_drew ?_ | refine blk_alloc ?_ _)); refine blk_put (cs := #[.int .u64 a0_0, .int .u64 a0_1, .slice Ao13 y246.length co13, .int .i64 t249, .int .u64 t250, .string t251, .slice Ao18 t252.length co18, .int .i64 t255, .int .u64 t256, .string t257, .slice none 0 0]) ?_ 10 _ rfl; (with_reducible repeat (first | refine blk_drewN ?_ _ | refine blk_drew ?_ | refine blk_alloc ?_ _)); refine blk_put (cs := #[.int .u64 a0_0, .int .u64 a0_1, .slice Ao13 y246.length co13, .int .i64 t249, .int .u64 t250, .string t251, .slice Ao18 t252.length co18, .int .i64 t255, .int .u64 t256, .string (⟨#[]⟩ : ByteArray), .slice none 0 0]) ?_ 9 _ rfl; (with_reducible repeat (first | refine blk_drewN ?_ _ | refine blk_drew ?_ | refine blk_alloc ?_ _)); refine blk_put (cs := #[.int .u64 a0_0, .int .u64 a0_1, .slice Ao13 y246.length co13, .int .i64 t249, .int .u64 t250, .string t251, .slice Ao18 t252.length co18, .int .i64 t255, .int .u64 0, .string (⟨#[]⟩ : ByteArray), .slice none 0 0]) ?_ 8 _ rfl; (with_reducible repeat (first | refine blk_drewN ?_ _ | refine blk_drew ?_ | refine blk_alloc ?_ _)); refine blk_put (cs := #[.int .u64 a0_0, .int .u64 a0_1, .slice Ao13 y246.length co13, .int .i64 t249, .int .u64 t250, .string t251, .slice Ao18 t252.length co18, .int .i64 0, .int .u64 0, .string (⟨#[]⟩ : ByteArray), .slice none 0 0]) ?_ 7 _ rfl; (with_reducible repeat (first | refine blk_drewN ?_ _ | refine blk_drew ?_ | refine blk_alloc ?_ _)); refine blk_put (cs := #[.int .u64 a0_0, .int .u64 a0_1, .slice Ao13 y246.length co13, .int .i64 t249, .int .u64 t250, .string t251, .slice none 0 0, .int .i64 0, .int .u64 0, .string (⟨#[]⟩ : ByteArray), .slice none 0 0]) ?_ 6 _ rfl; (with_reducible repeat (first | refine blk_drewN ?_ _ | refine blk_drew ?_ | refine blk_alloc ?_ _)); refine blk_put (cs := #[.int .u64 a0_0, .int .u64 a0_1, .slice Ao13 y246.length co13, .int .i64 t249, .int .u64 t250, .string (⟨#[]⟩ : ByteArray), .slice none 0 0, .int .i64 0, .int .u64 0, .string (⟨#[]⟩ : ByteArray), .slice none 0 0]) ?_ 5 _ rfl; (with_reducible repeat (first | refine blk_drewN ?_ _ | refine blk_drew ?_ | refine blk_alloc ?_ _)); refine blk_put (cs := #[.int .u64 a0_0, .int .u64 a0_1, .slice Ao13 y246.length co13, .int .i64 t249, .int .u64 0, .string (⟨#[]⟩ : ByteArray), .slice none 0 0, .int .i64 0, .int .u64 0, .string (⟨#[]⟩ : ByteArray), .slice none 0 0]) ?_ 4 _ rfl; (with_reducible repeat (first | refine blk_drewN ?_ _ | refine blk_drew ?_ | refine blk_alloc ?_ _)); refine blk_put (cs := #[.int .u64 a0_0, .int .u64 a0_1, .slice Ao13 y246.length co13, .int .i64 0, .int .u64 0, .string (⟨#[]⟩ : ByteArray), .slice none 0 0, .int .i64 0, .int .u64 0, .string (⟨#[]⟩ : ByteArray), .slice none 0 0]) ?_ 3 _ rfl; (with_reducible repeat (first | refine blk_drewN ?_ _ | refine blk_drew ?_ | refine blk_alloc ?_ _)); refine blk_put (cs := #[.int .u64 a0_0, .int .u64 a0_1, .slice none 0 0, .int .i64 0, .int .u64 0, .string (⟨#[]⟩ : ByteArray), .slice none 0 0, .int .i64 0, .int .u64 0, .string (⟨#[]⟩ : ByteArray), .slice none 0 0]) ?_ 2 _ rfl; (with_reducible repeat (first | refine blk_drewN ?_ _ | refine blk_drew ?_ | refine blk_alloc ?_ _)); refine blk_put (cs := #[.int .u64 a0_0, .int .u64 0, .slice none 0 0, .int .i64 0, .int .u64 0, .string (⟨#[]⟩ : ByteArray), .slice none 0 0, .int .i64 0, .int .u64 0, .string (⟨#[]⟩ : ByteArray), .slice none 0 0]) ?_ 1 _ rfl; (with_reducible repeat (first | refine blk_drewN ?_ _ | refine blk_drew ?_ | refine blk_alloc ?_ _)); refine blk_put (cs := #[.int .u64 0, .int .u64 0, .slice none 0 0, .int .i64 0, .int .u64 0, .string (⟨#[]⟩ : ByteArray), .slice none 0 0, .int .i64 0, .int .u64 0, .string (⟨#[]⟩ : ByteArray), .slice none 0 0]) ?_ 0 _ rfl; (with_reducible repeat (first | refine blk_drewN ?_ _ | refine blk_drew ?_ | refine blk_alloc ?_ _)); refine blk_far ?_ NB242_241.out _; (with_reducible repeat (first | refine blk_drewN ?_ _ | refine blk_drew ?_ | refine blk_alloc ?_ _)); refine blk_far ?_ NB242_241.out _; (with_reducible repeat (first | refine blk_drewN ?_ _ | refine blk_drew ?_ | refine blk_alloc ?_ _)); refine blk_far ?_ NB242_241.out _; (with_reducible repeat (first | refine blk_drewN ?_ _ | refine blk_drew ?_ | refine blk_alloc ?_ _)); refine blk_far ?_ NB242_241.out _; (with_reducible repeat (first | refine blk_drewN ?_ _ | refine blk_drew ?_ | refine blk_alloc ?_ _)); refine blk_far ?_ NB242_241.out _; (with_reducible repeat (first | refine blk_drewN ?_ _ | refine blk_drew ?_ | refine blk_alloc ?_ _)); refine blk_far ?_ NB242_241.out _; (with_reducible repeat (first | refine blk_drewN ?_ _ | refine blk_drew ?_ | refine blk_alloc ?_ _)); refine blk_far ?_ NB242_241.out _; (with_reducible repeat (first | refine blk_drewN ?_ _ | refine blk_drew ?_ | refine blk_alloc ?_ _)); refine blk_far ?_ NB242_241.out _; (with_reducible repeat (first | refine blk_drewN ?_ _ | refine blk_drew ?_ | refine blk_alloc ?_ _)); refine blk_far ?_ NB242_241.out _; (with_reducible repeat (first | refine blk_drewN ?_ _ | refine blk_drew ?_ | refine blk_alloc ?_ _)); exact BK242.out) Tryd.underlying28 rfl (by kernel_rfl)) rfl ?_
  exact ⟨_, _, _, pE, by (with_reducible repeat (first | apply Kd.R_alloc | apply Kd.R_drewN | apply Kd.R_drew)); exact Kd.R_mono (Kd.R_far (p := ⟨gb242, 10, none⟩) (Kd.R_far (p := ⟨gb242, 9, none⟩) (Kd.R_far (p := ⟨gb242, 8, none⟩) (Kd.R_far (p := ⟨gb242, 7, none⟩) (Kd.R_far (p := ⟨gb242, 6, none⟩) (Kd.R_far (p := ⟨gb242, 5, none⟩) (Kd.R_far (p := ⟨gb242, 4, none⟩) (Kd.R_far (p := ⟨gb242, 3, none⟩) (Kd.R_far (p := ⟨gb242, 2, none⟩) (Kd.R_far (p := ⟨gb242, 1, none⟩) (Kd.R_far (p := ⟨gb242, 0, none⟩) (Kd.R_far (p := ⟨gb241, 10, none⟩) (Kd.R_far (p := ⟨gb241, 9, none⟩) (Kd.R_far (p := ⟨gb241, 8, none⟩) (Kd.R_far (p := ⟨gb241, 7, none⟩) (Kd.R_far (p := ⟨gb241, 6, none⟩) (Kd.R_far (p := ⟨gb241, 5, none⟩) (Kd.R_far (p := ⟨gb241, 4, none⟩) (Kd.R_far (p := ⟨gb241, 3, none⟩) (Kd.R_far (p := ⟨gb241, 2, none⟩) (Kd.R_types (Kd.R_types HO248.out BK241.out (by decide)) BK242.out (by decide)) (fun _ hk => hk.1.2) (.slice Ao13 y246.length co13)) (fun _ hk => hk.1.2) (.int .i64 t249)) (fun _ hk => hk.1.2) (.int .u64 t250)) (fun _ hk => hk.1.2) (.string t251)) (fun _ hk => hk.1.2) (.slice Ao18 t252.length co18)) (fun _ hk => hk.1.2) (.int .i64 t255)) (fun _ hk => hk.1.2) (.int .u64 t256)) (fun _ hk => hk.1.2) (.string t257)) (fun _ hk => hk.1.2) (.slice Ao23 t258.length co23)) (fun _ hk => hk.2) (.int .u64 a0_0)) (fun _ hk => hk.2) (.int .u64 a0_1)) (fun _ hk => hk.2) (.slice Ao13 y246.length co13)) (fun _ hk => hk.2) (.int .i64 t249)) (fun _ hk => hk.2) (.int .u64 t250)) (fun _ hk => hk.2) (.string t251)) (fun _ hk => hk.2) (.slice Ao18 t252.length co18)) (fun _ hk => hk.2) (.int .i64 t255)) (fun _ hk => hk.2) (.int .u64 t256)) (fun _ hk => hk.2) (.string t257)) (fun _ hk => hk.2) (.slice Ao23 t258.length co23)) (fun _ hk => trivial), by (with_reducible repeat (first | apply Kd.R_alloc | apply Kd.R_drewN | apply Kd.R_drew)); exact Kd.R_mono (Kd.R_far (p := ⟨gb242, 10, none⟩) (Kd.R_far (p := ⟨gb242, 9, none⟩) (Kd.R_far (p := ⟨gb242, 8, none⟩) (Kd.R_far (p := ⟨gb242, 7, none⟩) (Kd.R_far (p := ⟨gb242, 6, none⟩) (Kd.R_far (p := ⟨gb242, 5, none⟩) (Kd.R_far (p := ⟨gb242, 4, none⟩) (Kd.R_far (p := ⟨gb242, 3, none⟩) (Kd.R_far (p := ⟨gb242, 2, none⟩) (Kd.R_far (p := ⟨gb242, 1, none⟩) (Kd.R_far (p := ⟨gb242, 0, none⟩) (Kd.R_far (p := ⟨gb241, 10, none⟩) (Kd.R_far (p := ⟨gb241, 9, none⟩) (Kd.R_far (p := ⟨gb241, 8, none⟩) (Kd.R_far (p := ⟨gb241, 7, none⟩) (Kd.R_far (p := ⟨gb241, 6, none⟩) (Kd.R_far (p := ⟨gb241, 5, none⟩) (Kd.R_far (p := ⟨gb241, 4, none⟩) (Kd.R_far (p := ⟨gb241, 3, none⟩) (Kd.R_far (p := ⟨gb241, 2, none⟩) (Kd.R_types (Kd.R_types HO254.out BK241.out (by decide)) BK242.out (by decide)) (fun _ hk => hk.1.2) (.slice Ao13 y246.length co13)) (fun _ hk => hk.1.2) (.int .i64 t249)) (fun _ hk => hk.1.2) (.int .u64 t250)) (fun _ hk => hk.1.2) (.string t251)) (fun _ hk => hk.1.2) (.slice Ao18 t252.length co18)) (fun _ hk => hk.1.2) (.int .i64 t255)) (fun _ hk => hk.1.2) (.int .u64 t256)) (fun _ hk => hk.1.2) (.string t257)) (fun _ hk => hk.1.2) (.slice Ao23 t258.length co23)) (fun _ hk => hk.2) (.int .u64 a0_0)) (fun _ hk => hk.2) (.int .u64 a0_1)) (fun _ hk => hk.2) (.slice Ao13 y246.length co13)) (fun _ hk => hk.2) (.int .i64 t249)) (fun _ hk => hk.2) (.int .u64 t250)) (fun _ hk => hk.2) (.string t251)) (fun _ hk => hk.2) (.slice Ao18 t252.length co18)) (fun _ hk => hk.2) (.int .i64 t255)) (fun _ hk => hk.2) (.int .u64 t256)) (fun _ hk => hk.2) (.string t257)) (fun _ hk => hk.2) (.slice Ao23 t258.length co23)) (fun _ hk => hk.1.1.2), by (with_reducible repeat (first | apply Kd.R_alloc | apply Kd.R_drewN | apply Kd.R_drew)); exact Kd.R_mono (Kd.R_far (p := ⟨gb242, 10, none⟩) (Kd.R_far (p := ⟨gb242, 9, none⟩) (Kd.R_far (p := ⟨gb242, 8, none⟩) (Kd.R_far (p := ⟨gb242, 7, none⟩) (Kd.R_far (p := ⟨gb242, 6, none⟩) (Kd.R_far (p := ⟨gb242, 5, none⟩) (Kd.R_far (p := ⟨gb242, 4, none⟩) (Kd.R_far (p := ⟨gb242, 3, none⟩) (Kd.R_far (p := ⟨gb242, 2, none⟩) (Kd.R_far (p := ⟨gb242, 1, none⟩) (Kd.R_far (p := ⟨gb242, 0, none⟩) (Kd.R_far (p := ⟨gb241, 10, none⟩) (Kd.R_far (p := ⟨gb241, 9, none⟩) (Kd.R_far (p := ⟨gb241, 8, none⟩) (Kd.R_far (p := ⟨gb241, 7, none⟩) (Kd.R_far (p := ⟨gb241, 6, none⟩) (Kd.R_far (p := ⟨gb241, 5, none⟩) (Kd.R_far (p := ⟨gb241, 4, none⟩) (Kd.R_far (p := ⟨gb241, 3, none⟩) (Kd.R_far (p := ⟨gb241, 2, none⟩) (Kd.R_types (Kd.R_types HO260.out BK241.out (by decide)) BK242.out (by decide)) (fun _ hk => hk.1.2) (.slice Ao13 y246.length co13)) (fun _ hk => hk.1.2) (.int .i64 t249)) (fun _ hk => hk.1.2) (.int .u64 t250)) (fun _ hk => hk.1.2) (.string t251)) (fun _ hk => hk.1.2) (.slice Ao18 t252.length co18)) (fun _ hk => hk.1.2) (.int .i64 t255)) (fun _ hk => hk.1.2) (.int .u64 t256)) (fun _ hk => hk.1.2) (.string t257)) (fun _ hk => hk.1.2) (.slice Ao23 t258.length co23)) (fun _ hk => hk.2) (.int .u64 a0_0)) (fun _ hk => hk.2) (.int .u64 a0_1)) (fun _ hk => hk.2) (.slice Ao13 y246.length co13)) (fun _ hk => hk.2) (.int .i64 t249)) (fun _ hk => hk.2) (.int .u64 t250)) (fun _ hk => hk.2) (.string t251)) (fun _ hk => hk.2) (.slice Ao18 t252.length co18)) (fun _ hk => hk.2) (.int .i64 t255)) (fun _ hk => hk.2) (.int .u64 t256)) (fun _ hk => hk.2) (.string t257)) (fun _ hk => hk.2) (.slice Ao23 t258.length co23)) (fun _ hk => hk.1.1.2), pB⟩
 ·rw [if_neg c2] at H
  exact absurd H (by simp)
def minstrelref19_Members.l0 : Nat → List Int → Int → Option (Bool)
 | 0, _, _ => none
 | k + 1, x0, x3 => if x3 < (x0.length : Int) then (if 0 ≤ x3 then (if (rd x0 x3) < 1 then (some false) else (if (rd x0 x3) > 64 then (some false) else (if x3 > 0 then (if 0 ≤ (wrap64 (x3 - 1)) then (if (wrap64 (x3 - 1)) < (x0.length : Int) then (if (rd x0 x3) ≤ (rd x0 (wrap64 (x3 - 1))) then (some false) else (minstrelref19_Members.l0 k x0 (wrap64 (x3 + 1)))) else (none)) else (none)) else (minstrelref19_Members.l0 k x0 (wrap64 (x3 + 1)))))) else (none)) else (some (decide ((x0.length : Int) > 0)))
def minstrelref19_Members.f (k : Nat) (l0 : List Int) : Option (Bool) := minstrelref19_Members.l0 k l0 0
theorem minstrelref19_Members.mono_l : ∀ k, (∀ y0 y1, LeO (minstrelref19_Members.l0 k y0 y1) (minstrelref19_Members.l0 (k + 1) y0 y1))
 | 0 => fun _ _ r h => by simp [minstrelref19_Members.l0] at h
 | k + 1 => by
  have ih0 := minstrelref19_Members.mono_l k
  ·intro y0 y1
   unfold minstrelref19_Members.l0
   repeat' first
   | (with_reducible exact ih0 _ _)
   | (with_reducible exact LeO.refl _)
   | (with_reducible exact LeO.none _)
   | (with_reducible refine LeO.ite ?_ ?_)
   | (with_reducible refine LeO.bind ?_ (fun _ => ?_))
   | exact ih0 _ _
   | exact LeO.none _
   | refine LeO.ite ?_ ?_
   | refine LeO.bind ?_ (fun _ => ?_)
theorem minstrelref19_Members.mono : ∀ a0 k, LeO (minstrelref19_Members.f k a0) (minstrelref19_Members.f (k + 1) a0) := by
 intro a0 k
 have ih0 := minstrelref19_Members.mono_l k
 unfold minstrelref19_Members.f
 repeat' first
   | (with_reducible exact ih0 _ _)
   | (with_reducible exact LeO.refl _)
   | (with_reducible exact LeO.none _)
   | (with_reducible refine LeO.ite ?_ ?_)
   | (with_reducible refine LeO.bind ?_ (fun _ => ?_))
   | exact ih0 _ _
   | exact LeO.none _
   | refine LeO.ite ?_ ?_
   | refine LeO.bind ?_ (fun _ => ?_)
set_option maxHeartbeats 8000000 in
set_option maxRecDepth 100000 in
theorem minstrelref19_Members.calls (k : Nat) (A0 : Option Addr) (c0 : Nat) (l0 : List Int) (r : Bool) (w : World) (hr0 : Kd.C (Kd.int .i64) w A0 l0.length l0) (hc0 : l0.length ≤ c0) (h : minstrelref19_Members.f k l0 = some r) :
  Calls Tryd.prog 13 #[.slice A0 l0.length c0] w fun e w' => e = .returned (.bool r) ∧ Drawn0 w w' := by
 have HR0 := Aside0.mk hr0
 have HC0 := Aside0.mk hc0
 clear hr0 hc0
 have H : (minstrelref19_Members.l0 k l0 0) = some r := h
 clear h
 have H' := Aside0.mk H
 clear H
 go_enter Tryd.func13, Tryd.ntmps13
 go_wp2
 repeat (go_quiet (fail); try go_wp2)
 go_loopg [3] k (fun kq v3 w' => ∃ (x3_1 : Int), v3 = .int .i64 x3_1 ∧ Aside0 (minstrelref19_Members.l0 kq l0 x3_1 = some r) ∧ Aside0 (kq ≤ k) ∧ Drawn0 w w')
 case atStart => exact ⟨(0), (by first | rfl | (simp; done) | (simp [*]; done)), H', ⟨Nat.le_refl _⟩, by repeat (first | exact Drawn0.refl _ | apply Drawn0.step)⟩
 case round =>
  clear H'
  try clear c1
  obtain ⟨x3_1, rfl, HA, HK1, ⟨m1, rfl⟩⟩ := hrel
  cases gk with
  | zero => exact absurd HA.out (by simp [minstrelref19_Members.l0])
  | succ k1 =>
   have H := HA.out
   clear HA
   simp only [minstrelref19_Members.l0] at H
   by_cases c2 : x3_1 < (l0.length : Int)
   ·rw [if_pos c2] at H
    have c2b0 : decide (x3_1 < (l0.length : Int)) = true := decide_eq_true c2
    clear c2
    by_cases c3 : 0 ≤ x3_1
    ·rw [if_pos c3] at H
     have c3b0 : decide (0 ≤ x3_1) = true := decide_eq_true c3
     clear c3
     by_cases c4 : (rd l0 x3_1) < 1
     ·rw [if_pos c4] at H
      have c4b0 : decide ((rd l0 x3_1) < 1) = true := decide_eq_true c4
      clear c4
      obtain rfl := Option.some.inj H
      have p261 : 0 ≤ (x3_1 : Int) := pD
      have q261 : x3_1 < (l0.length : Int) := pD
      obtain ⟨ad261, e261, hx261_0⟩ := Kd.at_int HR0.out x3_1 p261 q261
      cases e261
      replace p261 := eq_true p261
      replace q261 := eq_true q261
      go_wp2
      repeat (go_quiet (fail); try go_wp2)
      go_ret
      exact ⟨by first | rfl | (simp; done) | (simp [*]; done), by repeat (first | exact Drawn0.refl _ | apply Drawn0.step)⟩
     ·rw [if_neg c4] at H
      have c4b0 : decide ((rd l0 x3_1) < 1) = false := decide_eq_false c4
      clear c4
      by_cases c5 : (rd l0 x3_1) > 64
      ·rw [if_pos c5] at H
       have c5b0 : decide (64 < (rd l0 x3_1)) = true := decide_eq_true c5
       clear c5
       obtain rfl := Option.some.inj H
       have p261 : 0 ≤ (x3_1 : Int) := pD
       have q261 : x3_1 < (l0.length : Int) := pD
       obtain ⟨ad261, e261, hx261_0⟩ := Kd.at_int HR0.out x3_1 p261 q261
       cases e261
       replace p261 := eq_true p261
       replace q261 := eq_true q261
       have p262 : 0 ≤ (x3_1 : Int) := pD
       have q262 : x3_1 < (l0.length : Int) := pD
       obtain ⟨ad262, e262, hx262_0⟩ := Kd.at_int HR0.out x3_1 p262 q262
       obtain rfl : ad261 = ad262 := (by injection e262)
       replace p262 := eq_true p262
       replace q262 := eq_true q262
       go_wp2
       repeat (go_quiet (fail); try go_wp2)
       go_ret
       exact ⟨by first | rfl | (simp; done) | (simp [*]; done), by repeat (first | exact Drawn0.refl _ | apply Drawn0.step)⟩
      ·rw [if_neg c5] at H
       have c5b0 : decide (64 < (rd l0 x3_1)) = false := decide_eq_false c5
       clear c5
       by_cases c6 : x3_1 > 0
       ·rw [if_pos c6] at H
        have c6b0 : decide (0 < x3_1) = true := decide_eq_true c6
        clear c6
        obtain ⟨ji7, hji7⟩ : ∃ j_ : Int, (wrap64 (x3_1 - 1)) = j_ := ⟨_, rfl⟩
        replace H : (if 0 ≤ (ji7) then (if (ji7) < (l0.length : Int) then (if (rd l0 x3_1) ≤ (rd l0 (ji7)) then (some false) else (minstrelref19_Members.l0 k1 l0 (wrap64 (x3_1 + 1)))) else (none)) else (none)) = some r := by first | (rw [hji7] at H; exact H) | (simp only [hji7] at H ⊢; exact H)
        have hji7w : (IntKind.i64.wrap (x3_1 - 1)) = ji7 := (i64_w _).trans hji7
        by_cases c8 : 0 ≤ (ji7)
        ·rw [if_pos c8] at H
         have c8b0 : decide (0 ≤ (ji7)) = true := decide_eq_true c8
         clear c8
         by_cases c9 : (ji7) < (l0.length : Int)
         ·rw [if_pos c9] at H
          have c9b0 : decide ((ji7) < (l0.length : Int)) = true := decide_eq_true c9
          clear c9
          by_cases c10 : (rd l0 x3_1) ≤ (rd l0 (ji7))
          ·rw [if_pos c10] at H
           have c10b0 : decide ((rd l0 x3_1) ≤ (rd l0 (ji7))) = true := decide_eq_true c10
           clear c10
           obtain rfl := Option.some.inj H
           have p261 : 0 ≤ (x3_1 : Int) := pD
           have q261 : x3_1 < (l0.length : Int) := pD
           obtain ⟨ad261, e261, hx261_0⟩ := Kd.at_int HR0.out x3_1 p261 q261
           cases e261
           replace p261 := eq_true p261
           replace q261 := eq_true q261
           have p262 : 0 ≤ (x3_1 : Int) := pD
           have q262 : x3_1 < (l0.length : Int) := pD
           obtain ⟨ad262, e262, hx262_0⟩ := Kd.at_int HR0.out x3_1 p262 q262
           obtain rfl : ad261 = ad262 := (by injection e262)
           replace p262 := eq_true p262
           replace q262 := eq_true q262
           have p263 : 0 ≤ (x3_1 : Int) := pD
           have q263 : x3_1 < (l0.length : Int) := pD
           obtain ⟨ad263, e263, hx263_0⟩ := Kd.at_int HR0.out x3_1 p263 q263
           obtain rfl : ad261 = ad263 := (by injection e263)
           replace p263 := eq_true p263
           replace q263 := eq_true q263
           have p264 : 0 ≤ ((ji7) : Int) := pD
           have q264 : (ji7) < (l0.length : Int) := pD
           obtain ⟨ad264, e264, hx264_0⟩ := Kd.at_int HR0.out (ji7) p264 q264
           obtain rfl : ad261 = ad264 := (by injection e264)
           replace p264 := eq_true p264
           replace q264 := eq_true q264
           go_wp2
           repeat (go_quiet (fail); try go_wp2)
           go_ret
           exact ⟨by first | rfl | (simp; done) | (simp only [← hji7] <;> (first | rfl | simp)) | (simp [*]; done), by repeat (first | exact Drawn0.refl _ | apply Drawn0.step)⟩
          ·rw [if_neg c10] at H
           have c10b0 : decide ((rd l0 x3_1) ≤ (rd l0 (ji7))) = false := decide_eq_false c10
           clear c10
           have H' := Aside0.mk H
           clear H
           have p261 : 0 ≤ (x3_1 : Int) := pD
           have q261 : x3_1 < (l0.length : Int) := pD
           obtain ⟨ad261, e261, hx261_0⟩ := Kd.at_int HR0.out x3_1 p261 q261
           cases e261
           replace p261 := eq_true p261
           replace q261 := eq_true q261
           have p262 : 0 ≤ (x3_1 : Int) := pD
           have q262 : x3_1 < (l0.length : Int) := pD
           obtain ⟨ad262, e262, hx262_0⟩ := Kd.at_int HR0.out x3_1 p262 q262
           obtain rfl : ad261 = ad262 := (by injection e262)
           replace p262 := eq_true p262
           replace q262 := eq_true q262
           have p263 : 0 ≤ (x3_1 : Int) := pD
           have q263 : x3_1 < (l0.length : Int) := pD
           obtain ⟨ad263, e263, hx263_0⟩ := Kd.at_int HR0.out x3_1 p263 q263
           obtain rfl : ad261 = ad263 := (by injection e263)
           replace p263 := eq_true p263
           replace q263 := eq_true q263
           have p264 : 0 ≤ ((ji7) : Int) := pD
           have q264 : (ji7) < (l0.length : Int) := pD
           obtain ⟨ad264, e264, hx264_0⟩ := Kd.at_int HR0.out (ji7) p264 q264
           obtain rfl : ad261 = ad264 := (by injection e264)
           replace p264 := eq_true p264
           replace q264 := eq_true q264
           go_wp2
           repeat (go_quiet (fail); try go_wp2)
           go_roundg k1
           case measure => have := HK1.out; omega
           case rel => exact ⟨(wrap64 (x3_1 + 1)), (by first | rfl | (simp; done) | (simp [*]; done)), H', ⟨by have := HK1.out; omega⟩, by repeat (first | exact Drawn0.refl _ | apply Drawn0.step)⟩
         ·rw [if_neg c9] at H
          exact absurd H (by simp)
        ·rw [if_neg c8] at H
         exact absurd H (by simp)
       ·rw [if_neg c6] at H
        have c6b0 : decide (0 < x3_1) = false := decide_eq_false c6
        clear c6
        have H' := Aside0.mk H
        clear H
        have p261 : 0 ≤ (x3_1 : Int) := pD
        have q261 : x3_1 < (l0.length : Int) := pD
        obtain ⟨ad261, e261, hx261_0⟩ := Kd.at_int HR0.out x3_1 p261 q261
        cases e261
        replace p261 := eq_true p261
        replace q261 := eq_true q261
        have p262 : 0 ≤ (x3_1 : Int) := pD
        have q262 : x3_1 < (l0.length : Int) := pD
        obtain ⟨ad262, e262, hx262_0⟩ := Kd.at_int HR0.out x3_1 p262 q262
        obtain rfl : ad261 = ad262 := (by injection e262)
        replace p262 := eq_true p262
        replace q262 := eq_true q262
        go_wp2
        repeat (go_quiet (fail); try go_wp2)
        go_roundg k1
        case measure => have := HK1.out; omega
        case rel => exact ⟨(wrap64 (x3_1 + 1)), (by first | rfl | (simp; done) | (simp [*]; done)), H', ⟨by have := HK1.out; omega⟩, by repeat (first | exact Drawn0.refl _ | apply Drawn0.step)⟩
    ·rw [if_neg c3] at H
     exact absurd H (by simp)
   ·rw [if_neg c2] at H
    have c2b0 : decide (x3_1 < (l0.length : Int)) = false := decide_eq_false c2
    clear c2
    obtain rfl := Option.some.inj H
    go_wp2
    repeat (go_quiet (fail); try go_wp2)
    go_ret
    exact ⟨by first | rfl | (simp; done) | (simp [*]; done), by repeat (first | exact Drawn0.refl _ | apply Drawn0.step)⟩
end Go.Proofs.YtlkaffbgekbcfaaDoor.Pr
end
section
namespace Go.Proofs.YtlkaffbgekbcfaaDoor.Pr
open Go.RowKit Go.Proofs.YtlkaffbgekbcfaaDoorW.PrintWords Go.Proofs.YtlkaffbgekbcfaaDoorW.PrintLast Go.Proofs.YtlkaffbgekbcfaaDoorW.PrintMore
attribute [local go_sem] max2_int min2_int max_two min_two max_three min_three max_four min_four
set_option linter.unusedVariables false
set_option linter.unusedSimpArgs false
theorem pG {p : Prop} (h : p := by first | (with_reducible exact HG.out) | (with_reducible exact globDrewN HG.out _) | exact globBelow HG.out pB | exact globBelow HG.out pB | (repeat (first | (with_reducible exact HG.out) | apply globDrewN | apply globDrew))) : p := h
def minstrellaw19_SnapWhole.j0 : Nat → Int → Bool → Int → Int → List Int → Int → Int → ByteArray → List (S26) → Int → Int → ByteArray → List (S26) → Option (Bool)
 | 0, _, _, _, _, _, _, _, _, _, _, _, _, _ => none
 | k + 1, x1, x21, x262000, x262001, x262002, x262003, x262004, x262005, x262006, x262007, x262008, x262009, x262010 => if x21 = true then ((minstrellaw19_lives.f k).bind fun t264 => (some t264)) else ((minstrellaw19_own.f k x262000 x262001 x262002 x262003 x262004 x262005 x262006 x262007 x262008 x262009 x262010).bind fun bt265 => ((snap_Save.f k bt265.1 bt265.2.1 bt265.2.2.1 bt265.2.2.2.1 bt265.2.2.2.2.1 bt265.2.2.2.2.2.1 bt265.2.2.2.2.2.2.1 bt265.2.2.2.2.2.2.2.1 bt265.2.2.2.2.2.2.2.2.1 bt265.2.2.2.2.2.2.2.2.2.1 bt265.2.2.2.2.2.2.2.2.2.2).bind fun bt282 => (if bt282.2 = 0 then (if (bt282.1.length : Int) < 8 then (none) else ((some (([] : List Int) : List Int)).bind fun y287 => (if (bt282.1.length : Int) = 0 then (none) else (if 0 ≤ (Int.tmod (wrap64 (x1)) (bt282.1.length : Int)) then (if (Int.tmod (wrap64 (x1)) (bt282.1.length : Int)) ≤ (bt282.1.length : Int) then ((some (bt282.1.take ((Int.tmod (wrap64 (x1)) (bt282.1.length : Int)) : Int).toNat : List Int)).bind fun y290 => (if y287.length + y290.length < 140737488355328 then ((snap_Load.f k (y287 ++ y290)).bind fun bt297 => (if (wrap64 ((bt282.1.length : Int) - 4)) = 0 then (none) else (if 0 ≤ (wrap64 (4 + (Int.tmod (wrap64 (x1)) (wrap64 ((bt282.1.length : Int) - 4))))) then (if (wrap64 (4 + (Int.tmod (wrap64 (x1)) (wrap64 ((bt282.1.length : Int) - 4))))) < (bt282.1.length : Int) then (if 0 ≤ (IntKind.u64.wrap (Int.tmod x1 8)) then ((snap_Load.f k (bt282.1.set ((wrap64 (4 + (Int.tmod (wrap64 (x1)) (wrap64 ((bt282.1.length : Int) - 4))))) : Int).toNat (Go.bits .xor .u8 (rd bt282.1 (wrap64 (4 + (Int.tmod (wrap64 (x1)) (wrap64 ((bt282.1.length : Int) - 4)))))) (shl .u8 1 (IntKind.u64.wrap (Int.tmod x1 8)))))).bind fun bt318 => (if bt297.2.2.2.2.2.2.2.2.2.2.2 = 4 then (if bt318.2.2.2.2.2.2.2.2.2.2.2 = 4 then ((minstrellaw19_lives.f k).bind fun t337 => (some t337)) else (none)) else (none))) else (none)) else (none)) else (none)))) else (none))) else (none)) else (none))))) else ((minstrellaw19_lives.f k).bind fun t286 => (some t286)))))
def minstrellaw19_SnapWhole.f (k : Nat) (a0_0 : Int) (a0_1 : Int) (l0_2 : List Int) (a0_3 : Int) (a0_4 : Int) (a0_5 : ByteArray) (l0_6 : List (S26)) (a0_7 : Int) (a0_8 : Int) (a0_9 : ByteArray) (l0_10 : List (S26)) (a1 : Int) : Option (Bool) := (minstrellaw19_small.f k a0_3 a0_4 a0_5 l0_6).bind fun t262 => (if t262 = true then ((minstrellaw19_small.f k a0_7 a0_8 a0_9 l0_10).bind fun t263 => (minstrellaw19_SnapWhole.j0 k a1 (!t263) a0_0 a0_1 l0_2 a0_3 a0_4 a0_5 l0_6 a0_7 a0_8 a0_9 l0_10)) else (minstrellaw19_SnapWhole.j0 k a1 true a0_0 a0_1 l0_2 a0_3 a0_4 a0_5 l0_6 a0_7 a0_8 a0_9 l0_10))
theorem minstrellaw19_SnapWhole.mono_l : ∀ k, (∀ y0 y1 y2 y3 y4 y5 y6 y7 y8 y9 y10 y11 y12, LeO (minstrellaw19_SnapWhole.j0 k y0 y1 y2 y3 y4 y5 y6 y7 y8 y9 y10 y11 y12) (minstrellaw19_SnapWhole.j0 (k + 1) y0 y1 y2 y3 y4 y5 y6 y7 y8 y9 y10 y11 y12))
 | 0 => fun _ _ _ _ _ _ _ _ _ _ _ _ _ r h => by simp [minstrellaw19_SnapWhole.j0] at h
 | k + 1 => by
  have ih0 := minstrellaw19_SnapWhole.mono_l k
  ·intro y0 y1 y2 y3 y4 y5 y6 y7 y8 y9 y10 y11 y12
   unfold minstrellaw19_SnapWhole.j0
   repeat' first
   | (with_reducible exact ih0 _ _ _ _ _ _ _ _ _ _ _ _ _)
   | (with_reducible exact minstrellaw19_lives.mono _)
   | (with_reducible exact minstrellaw19_own.mono _ _ _ _ _ _ _ _ _ _ _ _)
   | (with_reducible exact minstrellaw19_small.mono _ _ _ _ _)
   | (with_reducible exact snap_Load.mono _ _)
   | (with_reducible exact snap_Save.mono _ _ _ _ _ _ _ _ _ _ _ _)
   | (with_reducible exact LeO.refl _)
   | (with_reducible exact LeO.none _)
   | (with_reducible refine LeO.ite ?_ ?_)
   | (with_reducible refine LeO.bind ?_ (fun _ => ?_))
   | exact ih0 _ _ _ _ _ _ _ _ _ _ _ _ _
   | exact minstrellaw19_lives.mono _
   | exact minstrellaw19_own.mono _ _ _ _ _ _ _ _ _ _ _ _
   | exact minstrellaw19_small.mono _ _ _ _ _
   | exact snap_Load.mono _ _
   | exact snap_Save.mono _ _ _ _ _ _ _ _ _ _ _ _
   | exact LeO.none _
   | refine LeO.ite ?_ ?_
   | refine LeO.bind ?_ (fun _ => ?_)
theorem minstrellaw19_SnapWhole.mono : ∀ a0 a1 a2 a3 a4 a5 a6 a7 a8 a9 a10 a11 k, LeO (minstrellaw19_SnapWhole.f k a0 a1 a2 a3 a4 a5 a6 a7 a8 a9 a10 a11) (minstrellaw19_SnapWhole.f (k + 1) a0 a1 a2 a3 a4 a5 a6 a7 a8 a9 a10 a11) := by
 intro a0 a1 a2 a3 a4 a5 a6 a7 a8 a9 a10 a11 k
 have ih0 := minstrellaw19_SnapWhole.mono_l k
 unfold minstrellaw19_SnapWhole.f
 repeat' first
   | (with_reducible exact ih0 _ _ _ _ _ _ _ _ _ _ _ _ _)
   | (with_reducible exact minstrellaw19_lives.mono _)
   | (with_reducible exact minstrellaw19_own.mono _ _ _ _ _ _ _ _ _ _ _ _)
   | (with_reducible exact minstrellaw19_small.mono _ _ _ _ _)
   | (with_reducible exact snap_Load.mono _ _)
   | (with_reducible exact snap_Save.mono _ _ _ _ _ _ _ _ _ _ _ _)
   | (with_reducible exact LeO.refl _)
   | (with_reducible exact LeO.none _)
   | (with_reducible refine LeO.ite ?_ ?_)
   | (with_reducible refine LeO.bind ?_ (fun _ => ?_))
   | exact ih0 _ _ _ _ _ _ _ _ _ _ _ _ _
   | exact minstrellaw19_lives.mono _
   | exact minstrellaw19_own.mono _ _ _ _ _ _ _ _ _ _ _ _
   | exact minstrellaw19_small.mono _ _ _ _ _
   | exact snap_Load.mono _ _
   | exact snap_Save.mono _ _ _ _ _ _ _ _ _ _ _ _
   | exact LeO.none _
   | refine LeO.ite ?_ ?_
   | refine LeO.bind ?_ (fun _ => ?_)
set_option maxHeartbeats 8000000 in
set_option maxRecDepth 100000 in
theorem minstrellaw19_SnapWhole.calls (k : Nat) (a0_0 : Int) (a0_1 : Int) (A0_2 : Option Addr) (c0_2 : Nat) (l0_2 : List Int) (a0_3 : Int) (a0_4 : Int) (a0_5 : ByteArray) (A0_6 : Option Addr) (c0_6 : Nat) (l0_6 : List (S26)) (a0_7 : Int) (a0_8 : Int) (a0_9 : ByteArray) (A0_10 : Option Addr) (c0_10 : Nat) (l0_10 : List (S26)) (a1 : Int) (r : Bool) (w : World) (hr0_2 : Kd.C (Kd.int .i64) w A0_2 l0_2.length l0_2) (hc0_2 : l0_2.length ≤ c0_2) (hr0_6 : Kd.C k26 w A0_6 l0_6.length l0_6) (hc0_6 : l0_6.length ≤ c0_6) (hr0_10 : Kd.C k26 w A0_10 l0_10.length l0_10) (hc0_10 : l0_10.length ≤ c0_10) (hG : QuarterLaid w) (h : minstrellaw19_SnapWhole.f k a0_0 a0_1 l0_2 a0_3 a0_4 a0_5 l0_6 a0_7 a0_8 a0_9 l0_10 a1 = some r) :
  Calls Tryd.prog 5 #[.agg #[.int .u64 a0_0, .int .u64 a0_1, .slice A0_2 l0_2.length c0_2, .int .i64 a0_3, .int .u64 a0_4, .string a0_5, .slice A0_6 l0_6.length c0_6, .int .i64 a0_7, .int .u64 a0_8, .string a0_9, .slice A0_10 l0_10.length c0_10], .int .u16 a1] w fun e w' => e = .returned (.bool r) ∧ Below w.heap.size w w' := by
 have hu28 := Tryd.underlying28
 have hu26 := Tryd.underlying26
 have HR0_2 := Aside0.mk hr0_2
 have HC0_2 := Aside0.mk hc0_2
 clear hr0_2 hc0_2
 have HR0_6 := Aside0.mk hr0_6
 have HC0_6 := Aside0.mk hc0_6
 clear hr0_6 hc0_6
 have HR0_10 := Aside0.mk hr0_10
 have HC0_10 := Aside0.mk hc0_10
 clear hr0_10 hc0_10
 have HG := Aside0.mk hG
 clear hG
 have HB := Aside0.mk (Below.refl w.heap.size w)
 have H : ((minstrellaw19_small.f k a0_3 a0_4 a0_5 l0_6).bind fun t262 => (if t262 = true then ((minstrellaw19_small.f k a0_7 a0_8 a0_9 l0_10).bind fun t263 => (minstrellaw19_SnapWhole.j0 k a1 (!t263) a0_0 a0_1 l0_2 a0_3 a0_4 a0_5 l0_6 a0_7 a0_8 a0_9 l0_10)) else (minstrellaw19_SnapWhole.j0 k a1 true a0_0 a0_1 l0_2 a0_3 a0_4 a0_5 l0_6 a0_7 a0_8 a0_9 l0_10))) = some r := h
 clear h
 have HC3 := Aside0.mk H
 clear H
 go_enter Tryd.func5, Tryd.ntmps5
 go_upto_region 1 with (first | ((with_reducible refine gate_dst (N := 2) rfl ?_); refine box_event ?hg (N := 2) ?hd (cs := #[.int .u64 a0_0, .int .u64 a0_1, .slice A0_2 l0_2.length c0_2, .int .i64 a0_3, .int .u64 a0_4, .string a0_5, .slice A0_6 l0_6.length c0_6, .int .i64 a0_7, .int .u64 a0_8, .string a0_9, .slice A0_10 l0_10.length c0_10]) (t := 28) ?hr ?_; (case hd => rfl); (case hg => rfl); (case hr => first | (go_simp; done) | (go_simp; rfl)); intro gb261 hg w4 hbox hb; have n0_ := Aside0.mk (below_step pB hb); have n1_ := Aside0.mk (hbox); have n2_ := Aside0.mk ((by rw [hg]; exact (below_size pB) : w.heap.size ≤ gb261)); have n3_ := Aside0.mk ((by rw [hg]; exact (below_size pB) : w.heap.size ≤ gb261)); clear HB; have HB := n0_; have BK261 := n1_; have GW261 := n2_; have GE261 := n3_; clear n0_ n1_ n2_ n3_; clear hb hbox hg))
 (try simp only [Act.put, List.setIfInBounds_toArray, List.set_cons_zero, List.set_cons_succ])
 go_cut [21] (fun v21 wc => ∃ (kq : Nat) (x21_2 : Bool), v21 = .bool x21_2 ∧ Aside0 (minstrellaw19_SnapWhole.j0 kq a1 x21_2 a0_0 a0_1 l0_2 a0_3 a0_4 a0_5 l0_6 a0_7 a0_8 a0_9 l0_10 = some r) ∧ Aside0 (kq ≤ k) ∧ Aside0 (wc.heap[gb261]? = some (.cells #[.int .u64 a0_0, .int .u64 a0_1, (.slice A0_2 l0_2.length c0_2), .int .i64 a0_3, .int .u64 a0_4, .string a0_5, (.slice A0_6 l0_6.length c0_6), .int .i64 a0_7, .int .u64 a0_8, .string a0_9, (.slice A0_10 l0_10.length c0_10)] 28 (0, 0))) ∧ Aside0 (Below w.heap.size w wc))
 case first =>
  have H := HC3.out
  clear HC3
  replace H := Option.bind_eq_some_iff.mp H
  obtain ⟨t262, A50, H⟩ := H
  replace H : (if t262 = true then ((minstrellaw19_small.f k a0_7 a0_8 a0_9 l0_10).bind fun t263 => (minstrellaw19_SnapWhole.j0 k a1 (!t263) a0_0 a0_1 l0_2 a0_3 a0_4 a0_5 l0_6 a0_7 a0_8 a0_9 l0_10)) else (minstrellaw19_SnapWhole.j0 k a1 true a0_0 a0_1 l0_2 a0_3 a0_4 a0_5 l0_6 a0_7 a0_8 a0_9 l0_10)) = some r := H
  have A5 := Aside0.mk A50
  clear A50
  by_cases c6 : t262 = true
  ·subst c6
   have H1 : ((minstrellaw19_small.f k a0_7 a0_8 a0_9 l0_10).bind fun t263 => (minstrellaw19_SnapWhole.j0 k a1 (!t263) a0_0 a0_1 l0_2 a0_3 a0_4 a0_5 l0_6 a0_7 a0_8 a0_9 l0_10)) = some r := by rw [if_pos rfl] at H; exact H
   clear H
   have H := H1
   clear H1
   replace H := Option.bind_eq_some_iff.mp H
   obtain ⟨t263, A70, H⟩ := H
   replace H : (minstrellaw19_SnapWhole.j0 k a1 (!t263) a0_0 a0_1 l0_2 a0_3 a0_4 a0_5 l0_6 a0_7 a0_8 a0_9 l0_10) = some r := H
   have A7 := Aside0.mk A70
   clear A70
   have H' := Aside0.mk H
   clear H
   obtain ⟨hcz8_0, hcz8_1, hcz8_2, hcz8_3, hcz8_4, hcz8_5, hcz8_6, hcz8_7, hcz8_8, hcz8_9, hcz8_10, hfz8_0, hfz8_1, hfz8_2, hfz8_3, hfz8_4, hfz8_5, hfz8_6, hfz8_7, hfz8_8, hfz8_9, hfz8_10⟩ := cf11 BK261.out
   go_wp2_with (first | ((with_reducible refine gate_callee (f := 7) rfl ?_); refine goesL_ (some 14) rfl rfl Tryd.func7 (by kernel_rfl) rfl #[.agg #[.int .i64 a0_3, .int .u64 a0_4, .string a0_5, .slice A0_6 l0_6.length c0_6]] rfl pM ?_; (with_reducible refine (minstrellaw19_small.calls k a0_3 a0_4 a0_5 _ _ l0_6 true _ ?side1 ?side2 A5.out).mono ?_); (case side1 => exact pC (Kd.C_below HR0_6.out HB.out)); (case side2 => exact HC0_6.out); rintro e w9 ⟨rfl, hb⟩; refine ⟨_, rfl, ?_⟩; have n0_ := Aside0.mk (pkb BK261.out hb); have n1_ := Aside0.mk (below_step pB hb); clear BK261; clear HB; have BK261 := n0_; have HB := n1_; clear n0_ n1_; (try clear hb); (try clear hb2); (try clear hk); (try clear hi); obtain ⟨hcz10_0, hcz10_1, hcz10_2, hcz10_3, hcz10_4, hcz10_5, hcz10_6, hcz10_7, hcz10_8, hcz10_9, hcz10_10, hfz10_0, hfz10_1, hfz10_2, hfz10_3, hfz10_4, hfz10_5, hfz10_6, hfz10_7, hfz10_8, hfz10_9, hfz10_10⟩ := cf11 BK261.out) | (go_at_call 7; (with_reducible refine (minstrellaw19_small.calls k a0_7 a0_8 a0_9 _ _ l0_10 t263 _ ?side1 ?side2 A7.out).mono ?_); (case side1 => exact pC (Kd.C_below HR0_10.out HB.out)); (case side2 => exact HC0_10.out); rintro e w11 ⟨rfl, hb⟩; have n0_ := Aside0.mk (pkb BK261.out hb); have n1_ := Aside0.mk (below_step pB hb); clear BK261; clear HB; have BK261 := n0_; have HB := n1_; clear n0_ n1_; (try clear hb); (try clear hb2); (try clear hk); (try clear hi)))
   go_meet
   case rel => exact ⟨_, (!t263), (by first | rfl | (simp; done) | (simp [*]; done)), H', ⟨by first | omega | exact Nat.le_refl _⟩, ⟨by (with_reducible repeat (first | refine blk_drewN ?_ _ | refine blk_drew ?_ | refine blk_alloc ?_ _)); exact BK261.out⟩, ⟨pB⟩⟩
  ·replace c6 := Bool.eq_false_iff.mpr c6
   subst c6
   have H1 : (minstrellaw19_SnapWhole.j0 k a1 true a0_0 a0_1 l0_2 a0_3 a0_4 a0_5 l0_6 a0_7 a0_8 a0_9 l0_10) = some r := by rw [if_neg (show ¬ (false = true) by decide)] at H; exact H
   clear H
   have H := H1
   clear H1
   have H' := Aside0.mk H
   clear H
   obtain ⟨hcz12_0, hcz12_1, hcz12_2, hcz12_3, hcz12_4, hcz12_5, hcz12_6, hcz12_7, hcz12_8, hcz12_9, hcz12_10, hfz12_0, hfz12_1, hfz12_2, hfz12_3, hfz12_4, hfz12_5, hfz12_6, hfz12_7, hfz12_8, hfz12_9, hfz12_10⟩ := cf11 BK261.out
   go_wp2_with (first | ((with_reducible refine gate_callee (f := 7) rfl ?_); refine goesL_ (some 14) rfl rfl Tryd.func7 (by kernel_rfl) rfl #[.agg #[.int .i64 a0_3, .int .u64 a0_4, .string a0_5, .slice A0_6 l0_6.length c0_6]] rfl pM ?_; (with_reducible refine (minstrellaw19_small.calls k a0_3 a0_4 a0_5 _ _ l0_6 false _ ?side1 ?side2 A5.out).mono ?_); (case side1 => exact pC (Kd.C_below HR0_6.out HB.out)); (case side2 => exact HC0_6.out); rintro e w13 ⟨rfl, hb⟩; refine ⟨_, rfl, ?_⟩; have n0_ := Aside0.mk (pkb BK261.out hb); have n1_ := Aside0.mk (below_step pB hb); clear BK261; clear HB; have BK261 := n0_; have HB := n1_; clear n0_ n1_; (try clear hb); (try clear hb2); (try clear hk); (try clear hi)))
   go_meet
   case rel => exact ⟨_, (true), (by first | rfl | (simp; done) | (simp [*]; done)), H', ⟨by first | omega | exact Nat.le_refl _⟩, ⟨by (with_reducible repeat (first | refine blk_drewN ?_ _ | refine blk_drew ?_ | refine blk_alloc ?_ _)); exact BK261.out⟩, ⟨pB⟩⟩
 case rest =>
  clear HC3
  try clear p2
  try clear c5
  try clear c6
  try clear c7
  try clear hcz10_0 hcz10_1 hcz10_10 hcz10_2 hcz10_3 hcz10_4 hcz10_5 hcz10_6 hcz10_7 hcz10_8 hcz10_9 hcz12_0 hcz12_1 hcz12_10 hcz12_2 hcz12_3 hcz12_4 hcz12_5 hcz12_6 hcz12_7 hcz12_8 hcz12_9 hcz8_0 hcz8_1 hcz8_10 hcz8_2 hcz8_3 hcz8_4 hcz8_5 hcz8_6 hcz8_7 hcz8_8 hcz8_9 hfz10_0 hfz10_1 hfz10_10 hfz10_2 hfz10_3 hfz10_4 hfz10_5 hfz10_6 hfz10_7 hfz10_8 hfz10_9 hfz12_0 hfz12_1 hfz12_10 hfz12_2 hfz12_3 hfz12_4 hfz12_5 hfz12_6 hfz12_7 hfz12_8 hfz12_9 hfz8_0 hfz8_1 hfz8_10 hfz8_2 hfz8_3 hfz8_4 hfz8_5 hfz8_6 hfz8_7 hfz8_8 hfz8_9
  obtain ⟨kq, x21_2, rfl, HA, HJ2, BK261, HB⟩ := hcut
  cases kq with
  | zero => exact absurd HA.out (by simp [minstrellaw19_SnapWhole.j0])
  | succ kj2 =>
   have H := HA.out
   clear HA
   simp only [minstrellaw19_SnapWhole.j0] at H
   by_cases c14 : x21_2 = true
   ·subst c14
    have H1 : ((minstrellaw19_lives.f kj2).bind fun t264 => (some t264)) = some r := by rw [if_pos rfl] at H; exact H
    clear H
    have H := H1
    clear H1
    replace H := Option.bind_eq_some_iff.mp H
    obtain ⟨t264, A150, H⟩ := H
    replace H : (some t264) = some r := H
    have A15 := Aside0.mk A150
    clear A150
    obtain rfl := Option.some.inj H
    go_wp2_with (first | ((with_reducible refine gate_callee (f := 8) rfl ?_); refine goesL_ (some 22) rfl rfl Tryd.func8 (by kernel_rfl) rfl #[] rfl pM ?_; (with_reducible refine (minstrellaw19_lives.calls kj2  t264 _ ?side1 A15.out).mono ?_); (case side1 => exact pG); rintro e w16 ⟨rfl, hb⟩; refine ⟨_, rfl, ?_⟩; have n0_ := Aside0.mk (pkb BK261.out hb); have n1_ := Aside0.mk (below_step pB hb); clear BK261; clear HB; have BK261 := n0_; have HB := n1_; clear n0_ n1_; (try clear hb); (try clear hb2); (try clear hk); (try clear hi)))
    go_ret
    exact ⟨pE, pB⟩
   ·replace c14 := Bool.eq_false_iff.mpr c14
    subst c14
    have H1 : ((minstrellaw19_own.f kj2 a0_0 a0_1 l0_2 a0_3 a0_4 a0_5 l0_6 a0_7 a0_8 a0_9 l0_10).bind fun bt265 => ((snap_Save.f kj2 bt265.1 bt265.2.1 bt265.2.2.1 bt265.2.2.2.1 bt265.2.2.2.2.1 bt265.2.2.2.2.2.1 bt265.2.2.2.2.2.2.1 bt265.2.2.2.2.2.2.2.1 bt265.2.2.2.2.2.2.2.2.1 bt265.2.2.2.2.2.2.2.2.2.1 bt265.2.2.2.2.2.2.2.2.2.2).bind fun bt282 => (if bt282.2 = 0 then (if (bt282.1.length : Int) < 8 then (none) else ((some (([] : List Int) : List Int)).bind fun y287 => (if (bt282.1.length : Int) = 0 then (none) else (if 0 ≤ (Int.tmod (wrap64 (a1)) (bt282.1.length : Int)) then (if (Int.tmod (wrap64 (a1)) (bt282.1.length : Int)) ≤ (bt282.1.length : Int) then ((some (bt282.1.take ((Int.tmod (wrap64 (a1)) (bt282.1.length : Int)) : Int).toNat : List Int)).bind fun y290 => (if y287.length + y290.length < 140737488355328 then ((snap_Load.f kj2 (y287 ++ y290)).bind fun bt297 => (if (wrap64 ((bt282.1.length : Int) - 4)) = 0 then (none) else (if 0 ≤ (wrap64 (4 + (Int.tmod (wrap64 (a1)) (wrap64 ((bt282.1.length : Int) - 4))))) then (if (wrap64 (4 + (Int.tmod (wrap64 (a1)) (wrap64 ((bt282.1.length : Int) - 4))))) < (bt282.1.length : Int) then (if 0 ≤ (IntKind.u64.wrap (Int.tmod a1 8)) then ((snap_Load.f kj2 (bt282.1.set ((wrap64 (4 + (Int.tmod (wrap64 (a1)) (wrap64 ((bt282.1.length : Int) - 4))))) : Int).toNat (Go.bits .xor .u8 (rd bt282.1 (wrap64 (4 + (Int.tmod (wrap64 (a1)) (wrap64 ((bt282.1.length : Int) - 4)))))) (shl .u8 1 (IntKind.u64.wrap (Int.tmod a1 8)))))).bind fun bt318 => (if bt297.2.2.2.2.2.2.2.2.2.2.2 = 4 then (if bt318.2.2.2.2.2.2.2.2.2.2.2 = 4 then ((minstrellaw19_lives.f kj2).bind fun t337 => (some t337)) else (none)) else (none))) else (none)) else (none)) else (none)))) else (none))) else (none)) else (none))))) else ((minstrellaw19_lives.f kj2).bind fun t286 => (some t286))))) = some r := by rw [if_neg (show ¬ (false = true) by decide)] at H; exact H
    clear H
    have H := H1
    clear H1
    replace H := Option.bind_eq_some_iff.mp H
    obtain ⟨⟨t265, t266, t267, t270, t271, t272, t273, t276, t277, t278, t279⟩, A170, H⟩ := H
    replace H : ((snap_Save.f kj2 t265 t266 t267 t270 t271 t272 t273 t276 t277 t278 t279).bind fun bt282 => (if bt282.2 = 0 then (if (bt282.1.length : Int) < 8 then (none) else ((some (([] : List Int) : List Int)).bind fun y287 => (if (bt282.1.length : Int) = 0 then (none) else (if 0 ≤ (Int.tmod (wrap64 (a1)) (bt282.1.length : Int)) then (if (Int.tmod (wrap64 (a1)) (bt282.1.length : Int)) ≤ (bt282.1.length : Int) then ((some (bt282.1.take ((Int.tmod (wrap64 (a1)) (bt282.1.length : Int)) : Int).toNat : List Int)).bind fun y290 => (if y287.length + y290.length < 140737488355328 then ((snap_Load.f kj2 (y287 ++ y290)).bind fun bt297 => (if (wrap64 ((bt282.1.length : Int) - 4)) = 0 then (none) else (if 0 ≤ (wrap64 (4 + (Int.tmod (wrap64 (a1)) (wrap64 ((bt282.1.length : Int) - 4))))) then (if (wrap64 (4 + (Int.tmod (wrap64 (a1)) (wrap64 ((bt282.1.length : Int) - 4))))) < (bt282.1.length : Int) then (if 0 ≤ (IntKind.u64.wrap (Int.tmod a1 8)) then ((snap_Load.f kj2 (bt282.1.set ((wrap64 (4 + (Int.tmod (wrap64 (a1)) (wrap64 ((bt282.1.length : Int) - 4))))) : Int).toNat (Go.bits .xor .u8 (rd bt282.1 (wrap64 (4 + (Int.tmod (wrap64 (a1)) (wrap64 ((bt282.1.length : Int) - 4)))))) (shl .u8 1 (IntKind.u64.wrap (Int.tmod a1 8)))))).bind fun bt318 => (if bt297.2.2.2.2.2.2.2.2.2.2.2 = 4 then (if bt318.2.2.2.2.2.2.2.2.2.2.2 = 4 then ((minstrellaw19_lives.f kj2).bind fun t337 => (some t337)) else (none)) else (none))) else (none)) else (none)) else (none)))) else (none))) else (none)) else (none))))) else ((minstrellaw19_lives.f kj2).bind fun t286 => (some t286)))) = some r := H
    have A17 := Aside0.mk A170
    clear A170
    replace H := Option.bind_eq_some_iff.mp H
    obtain ⟨⟨t282, t285⟩, A180, H⟩ := H
    replace H : (if t285 = 0 then (if (t282.length : Int) < 8 then (none) else ((some (([] : List Int) : List Int)).bind fun y287 => (if (t282.length : Int) = 0 then (none) else (if 0 ≤ (Int.tmod (wrap64 (a1)) (t282.length : Int)) then (if (Int.tmod (wrap64 (a1)) (t282.length : Int)) ≤ (t282.length : Int) then ((some (t282.take ((Int.tmod (wrap64 (a1)) (t282.length : Int)) : Int).toNat : List Int)).bind fun y290 => (if y287.length + y290.length < 140737488355328 then ((snap_Load.f kj2 (y287 ++ y290)).bind fun bt297 => (if (wrap64 ((t282.length : Int) - 4)) = 0 then (none) else (if 0 ≤ (wrap64 (4 + (Int.tmod (wrap64 (a1)) (wrap64 ((t282.length : Int) - 4))))) then (if (wrap64 (4 + (Int.tmod (wrap64 (a1)) (wrap64 ((t282.length : Int) - 4))))) < (t282.length : Int) then (if 0 ≤ (IntKind.u64.wrap (Int.tmod a1 8)) then ((snap_Load.f kj2 (t282.set ((wrap64 (4 + (Int.tmod (wrap64 (a1)) (wrap64 ((t282.length : Int) - 4))))) : Int).toNat (Go.bits .xor .u8 (rd t282 (wrap64 (4 + (Int.tmod (wrap64 (a1)) (wrap64 ((t282.length : Int) - 4)))))) (shl .u8 1 (IntKind.u64.wrap (Int.tmod a1 8)))))).bind fun bt318 => (if bt297.2.2.2.2.2.2.2.2.2.2.2 = 4 then (if bt318.2.2.2.2.2.2.2.2.2.2.2 = 4 then ((minstrellaw19_lives.f kj2).bind fun t337 => (some t337)) else (none)) else (none))) else (none)) else (none)) else (none)))) else (none))) else (none)) else (none))))) else ((minstrellaw19_lives.f kj2).bind fun t286 => (some t286))) = some r := H
    have A18 := Aside0.mk A180
    clear A180
    by_cases c19 : t285 = 0
    ·rw [if_pos c19] at H
     have c19b0 : (t285 == 0) = true := beq_iff_eq.mpr c19
     have c19b1 : (t285 != 0) = false := bne_eq_false_iff_eq.mpr c19
     clear c19
     by_cases c20 : (t282.length : Int) < 8
     ·rw [if_pos c20] at H
      exact absurd H (by simp)
     ·rw [if_neg c20] at H
      have c20b0 : decide ((t282.length : Int) < 8) = false := decide_eq_false c20
      have c20b1 : decide (t282.length < 8) = false := decide_eq_false (by omega)
      clear c20
      obtain ⟨y287, hy287⟩ : ∃ y_ : List Int, y_ = (([] : List Int)) := ⟨_, rfl⟩
      replace H : (if (t282.length : Int) = 0 then (none) else (if 0 ≤ (Int.tmod (wrap64 (a1)) (t282.length : Int)) then (if (Int.tmod (wrap64 (a1)) (t282.length : Int)) ≤ (t282.length : Int) then ((some (t282.take ((Int.tmod (wrap64 (a1)) (t282.length : Int)) : Int).toNat : List Int)).bind fun y290 => (if y287.length + y290.length < 140737488355328 then ((snap_Load.f kj2 (y287 ++ y290)).bind fun bt297 => (if (wrap64 ((t282.length : Int) - 4)) = 0 then (none) else (if 0 ≤ (wrap64 (4 + (Int.tmod (wrap64 (a1)) (wrap64 ((t282.length : Int) - 4))))) then (if (wrap64 (4 + (Int.tmod (wrap64 (a1)) (wrap64 ((t282.length : Int) - 4))))) < (t282.length : Int) then (if 0 ≤ (IntKind.u64.wrap (Int.tmod a1 8)) then ((snap_Load.f kj2 (t282.set ((wrap64 (4 + (Int.tmod (wrap64 (a1)) (wrap64 ((t282.length : Int) - 4))))) : Int).toNat (Go.bits .xor .u8 (rd t282 (wrap64 (4 + (Int.tmod (wrap64 (a1)) (wrap64 ((t282.length : Int) - 4)))))) (shl .u8 1 (IntKind.u64.wrap (Int.tmod a1 8)))))).bind fun bt318 => (if bt297.2.2.2.2.2.2.2.2.2.2.2 = 4 then (if bt318.2.2.2.2.2.2.2.2.2.2.2 = 4 then ((minstrellaw19_lives.f kj2).bind fun t337 => (some t337)) else (none)) else (none))) else (none)) else (none)) else (none)))) else (none))) else (none)) else (none))) = some r := by first | (rw [hy287]; with_reducible exact H) | (have H2_ := (Option.bind_some _ _).symm.trans H; rw [hy287]; with_reducible exact H2_) | (have H2_ := (Option.bind_some _ _).symm.trans H; with_reducible exact H2_) | with_reducible exact H | (rw [hy287]; exact H) | exact H
      have Ny287 := Aside0.mk hy287
      clear hy287
      by_cases c21 : (t282.length : Int) = 0
      ·rw [if_pos c21] at H
       exact absurd H (by simp)
      ·rw [if_neg c21] at H
       have c21b0 : ((t282.length : Int) == 0) = false := beq_eq_false_iff_ne.mpr c21
       have c21b1 : ((t282.length : Int) != 0) = true := bne_iff_ne.mpr c21
       have c21b2 : ¬ (t282 = []) := fun h_ => c21 (by rw [h_]; rfl)
       obtain ⟨ji22, hji22⟩ : ∃ j_ : Int, (Int.tmod (wrap64 (a1)) (t282.length : Int)) = j_ := ⟨_, rfl⟩
       replace H : (if 0 ≤ (ji22) then (if (ji22) ≤ (t282.length : Int) then ((some (t282.take ((ji22) : Int).toNat : List Int)).bind fun y290 => (if y287.length + y290.length < 140737488355328 then ((snap_Load.f kj2 (y287 ++ y290)).bind fun bt297 => (if (wrap64 ((t282.length : Int) - 4)) = 0 then (none) else (if 0 ≤ (wrap64 (4 + (Int.tmod (wrap64 (a1)) (wrap64 ((t282.length : Int) - 4))))) then (if (wrap64 (4 + (Int.tmod (wrap64 (a1)) (wrap64 ((t282.length : Int) - 4))))) < (t282.length : Int) then (if 0 ≤ (IntKind.u64.wrap (Int.tmod a1 8)) then ((snap_Load.f kj2 (t282.set ((wrap64 (4 + (Int.tmod (wrap64 (a1)) (wrap64 ((t282.length : Int) - 4))))) : Int).toNat (Go.bits .xor .u8 (rd t282 (wrap64 (4 + (Int.tmod (wrap64 (a1)) (wrap64 ((t282.length : Int) - 4)))))) (shl .u8 1 (IntKind.u64.wrap (Int.tmod a1 8)))))).bind fun bt318 => (if bt297.2.2.2.2.2.2.2.2.2.2.2 = 4 then (if bt318.2.2.2.2.2.2.2.2.2.2.2 = 4 then ((minstrellaw19_lives.f kj2).bind fun t337 => (some t337)) else (none)) else (none))) else (none)) else (none)) else (none)))) else (none))) else (none)) else (none)) = some r := by first | (rw [hji22] at H; exact H) | (simp only [hji22] at H ⊢; exact H)
       (try rw [hji22] at A17)
       (try rw [hji22] at A18)
       by_cases c23 : 0 ≤ (ji22)
       ·rw [if_pos c23] at H
        have c23b0 := eq_true c23
        have c23b1 : decide (0 ≤ (ji22)) = true := decide_eq_true c23
        clear c23
        by_cases c24 : (ji22) ≤ (t282.length : Int)
        ·rw [if_pos c24] at H
         have c24b0 := eq_true c24
         have c24b1 : decide ((ji22) ≤ (t282.length : Int)) = true := decide_eq_true c24
         clear c24
         obtain ⟨y290, hy290⟩ : ∃ y_ : List Int, y_ = (t282.take ((ji22) : Int).toNat) := ⟨_, rfl⟩
         replace H : (if y287.length + y290.length < 140737488355328 then ((snap_Load.f kj2 (y287 ++ y290)).bind fun bt297 => (if (wrap64 ((t282.length : Int) - 4)) = 0 then (none) else (if 0 ≤ (wrap64 (4 + (Int.tmod (wrap64 (a1)) (wrap64 ((t282.length : Int) - 4))))) then (if (wrap64 (4 + (Int.tmod (wrap64 (a1)) (wrap64 ((t282.length : Int) - 4))))) < (t282.length : Int) then (if 0 ≤ (IntKind.u64.wrap (Int.tmod a1 8)) then ((snap_Load.f kj2 (t282.set ((wrap64 (4 + (Int.tmod (wrap64 (a1)) (wrap64 ((t282.length : Int) - 4))))) : Int).toNat (Go.bits .xor .u8 (rd t282 (wrap64 (4 + (Int.tmod (wrap64 (a1)) (wrap64 ((t282.length : Int) - 4)))))) (shl .u8 1 (IntKind.u64.wrap (Int.tmod a1 8)))))).bind fun bt318 => (if bt297.2.2.2.2.2.2.2.2.2.2.2 = 4 then (if bt318.2.2.2.2.2.2.2.2.2.2.2 = 4 then ((minstrellaw19_lives.f kj2).bind fun t337 => (some t337)) else (none)) else (none))) else (none)) else (none)) else (none)))) else (none)) = some r := by first | (rw [hy290]; with_reducible exact H) | (have H2_ := (Option.bind_some _ _).symm.trans H; rw [hy290]; with_reducible exact H2_) | (have H2_ := (Option.bind_some _ _).symm.trans H; with_reducible exact H2_) | with_reducible exact H | (rw [hy290]; exact H) | exact H
         have Ny290 := Aside0.mk hy290
         clear hy290
         by_cases c25 : y287.length + y290.length < 140737488355328
         ·rw [if_pos c25] at H
          have LMc25 := Aside0.mk c25
          clear c25
          obtain ⟨y294, hy294⟩ : ∃ y_ : List Int, y_ = (y287 ++ y290) := ⟨_, rfl⟩
          replace H : ((snap_Load.f kj2 y294).bind fun bt297 => (if (wrap64 ((t282.length : Int) - 4)) = 0 then (none) else (if 0 ≤ (wrap64 (4 + (Int.tmod (wrap64 (a1)) (wrap64 ((t282.length : Int) - 4))))) then (if (wrap64 (4 + (Int.tmod (wrap64 (a1)) (wrap64 ((t282.length : Int) - 4))))) < (t282.length : Int) then (if 0 ≤ (IntKind.u64.wrap (Int.tmod a1 8)) then ((snap_Load.f kj2 (t282.set ((wrap64 (4 + (Int.tmod (wrap64 (a1)) (wrap64 ((t282.length : Int) - 4))))) : Int).toNat (Go.bits .xor .u8 (rd t282 (wrap64 (4 + (Int.tmod (wrap64 (a1)) (wrap64 ((t282.length : Int) - 4)))))) (shl .u8 1 (IntKind.u64.wrap (Int.tmod a1 8)))))).bind fun bt318 => (if bt297.2.2.2.2.2.2.2.2.2.2.2 = 4 then (if bt318.2.2.2.2.2.2.2.2.2.2.2 = 4 then ((minstrellaw19_lives.f kj2).bind fun t337 => (some t337)) else (none)) else (none))) else (none)) else (none)) else (none)))) = some r := by first | (rw [hy294]; with_reducible exact H) | (have H2_ := (Option.bind_some _ _).symm.trans H; rw [hy294]; with_reducible exact H2_) | (have H2_ := (Option.bind_some _ _).symm.trans H; with_reducible exact H2_) | with_reducible exact H | (rw [hy294]; exact H) | exact H
          have Ny294 := Aside0.mk hy294
          clear hy294
          replace H := Option.bind_eq_some_iff.mp H
          obtain ⟨⟨t297, t298, t299, t302, t303, t304, t305, t308, t309, t310, t311, t314⟩, A260, H⟩ := H
          replace H : (if (wrap64 ((t282.length : Int) - 4)) = 0 then (none) else (if 0 ≤ (wrap64 (4 + (Int.tmod (wrap64 (a1)) (wrap64 ((t282.length : Int) - 4))))) then (if (wrap64 (4 + (Int.tmod (wrap64 (a1)) (wrap64 ((t282.length : Int) - 4))))) < (t282.length : Int) then (if 0 ≤ (IntKind.u64.wrap (Int.tmod a1 8)) then ((snap_Load.f kj2 (t282.set ((wrap64 (4 + (Int.tmod (wrap64 (a1)) (wrap64 ((t282.length : Int) - 4))))) : Int).toNat (Go.bits .xor .u8 (rd t282 (wrap64 (4 + (Int.tmod (wrap64 (a1)) (wrap64 ((t282.length : Int) - 4)))))) (shl .u8 1 (IntKind.u64.wrap (Int.tmod a1 8)))))).bind fun bt318 => (if t314 = 4 then (if bt318.2.2.2.2.2.2.2.2.2.2.2 = 4 then ((minstrellaw19_lives.f kj2).bind fun t337 => (some t337)) else (none)) else (none))) else (none)) else (none)) else (none))) = some r := H
          have A26 := Aside0.mk A260
          clear A260
          by_cases c27 : (wrap64 ((t282.length : Int) - 4)) = 0
          ·rw [if_pos c27] at H
           exact absurd H (by simp)
          ·rw [if_neg c27] at H
           have c27b0 : ((wrap64 ((t282.length : Int) - 4)) == 0) = false := beq_eq_false_iff_ne.mpr c27
           have c27b1 : ((wrap64 ((t282.length : Int) - 4)) != 0) = true := bne_iff_ne.mpr c27
           obtain ⟨ji28, hji28⟩ : ∃ j_ : Int, (wrap64 (4 + (Int.tmod (wrap64 (a1)) (wrap64 ((t282.length : Int) - 4))))) = j_ := ⟨_, rfl⟩
           replace H : (if 0 ≤ (ji28) then (if (ji28) < (t282.length : Int) then (if 0 ≤ (IntKind.u64.wrap (Int.tmod a1 8)) then ((snap_Load.f kj2 (t282.set ((ji28) : Int).toNat (Go.bits .xor .u8 (rd t282 (ji28)) (shl .u8 1 (IntKind.u64.wrap (Int.tmod a1 8)))))).bind fun bt318 => (if t314 = 4 then (if bt318.2.2.2.2.2.2.2.2.2.2.2 = 4 then ((minstrellaw19_lives.f kj2).bind fun t337 => (some t337)) else (none)) else (none))) else (none)) else (none)) else (none)) = some r := by first | (rw [hji28] at H; exact H) | (simp only [hji28] at H ⊢; exact H)
           (try rw [hji28] at A17)
           (try rw [hji28] at A18)
           (try rw [hji28] at A26)
           have hji28w : (IntKind.i64.wrap (4 + (Int.tmod (wrap64 (a1)) (wrap64 ((t282.length : Int) - 4))))) = ji28 := (i64_w _).trans hji28
           by_cases c29 : 0 ≤ (ji28)
           ·rw [if_pos c29] at H
            have c29b0 : decide (0 ≤ (ji28)) = true := decide_eq_true c29
            clear c29
            by_cases c30 : (ji28) < (t282.length : Int)
            ·rw [if_pos c30] at H
             have c30b0 : decide ((ji28) < (t282.length : Int)) = true := decide_eq_true c30
             clear c30
             obtain ⟨ji31, hji31⟩ : ∃ j_ : Int, (IntKind.u64.wrap (Int.tmod a1 8)) = j_ := ⟨_, rfl⟩
             replace H : (if 0 ≤ (ji31) then ((snap_Load.f kj2 (t282.set ((ji28) : Int).toNat (Go.bits .xor .u8 (rd t282 (ji28)) (shl .u8 1 (ji31))))).bind fun bt318 => (if t314 = 4 then (if bt318.2.2.2.2.2.2.2.2.2.2.2 = 4 then ((minstrellaw19_lives.f kj2).bind fun t337 => (some t337)) else (none)) else (none))) else (none)) = some r := by first | (rw [hji31] at H; exact H) | (simp only [hji31] at H ⊢; exact H)
             (try rw [hji31] at A17)
             (try rw [hji31] at A18)
             (try rw [hji31] at A26)
             by_cases c32 : 0 ≤ (ji31)
             ·rw [if_pos c32] at H
              have c32b0 := eq_true c32
              have c32b1 : decide (0 ≤ (ji31)) = true := decide_eq_true c32
              clear c32
              obtain ⟨ji33, hji33⟩ : ∃ j_ : Int, (shl .u8 1 (ji31)) = j_ := ⟨_, rfl⟩
              replace H : ((snap_Load.f kj2 (t282.set ((ji28) : Int).toNat (Go.bits .xor .u8 (rd t282 (ji28)) (ji33)))).bind fun bt318 => (if t314 = 4 then (if bt318.2.2.2.2.2.2.2.2.2.2.2 = 4 then ((minstrellaw19_lives.f kj2).bind fun t337 => (some t337)) else (none)) else (none))) = some r := by first | (rw [hji33] at H; exact H) | (simp only [hji33] at H ⊢; exact H)
              (try rw [hji33] at A17)
              (try rw [hji33] at A18)
              (try rw [hji33] at A26)
              have hji33_ : (IntKind.u8.wrap (1 * 2 ^ min (ji31).toNat 8)) = ji33 := hji33
              have hji33z : (ji31) ≤ 8 → (IntKind.u8.wrap (1 * 2 ^ (ji31).toNat)) = ji33 := shl_small hji33
              have hji33u : (IntKind.u8.wrap (2 ^ min (ji31).toNat 8)) = ji33 := by have h_ := hji33_; rw [Int.one_mul] at h_; exact h_
              have hji33v : (ji31) ≤ 8 → (IntKind.u8.wrap (2 ^ (ji31).toNat)) = ji33 := fun hle_ => by have h_ := hji33z hle_; rw [Int.one_mul] at h_; exact h_
              obtain ⟨y317, hy317⟩ : ∃ y_ : List Int, y_ = (t282.set ((ji28) : Int).toNat (Go.bits .xor .u8 (rd t282 (ji28)) (ji33))) := ⟨_, rfl⟩
              replace H : ((snap_Load.f kj2 y317).bind fun bt318 => (if t314 = 4 then (if bt318.2.2.2.2.2.2.2.2.2.2.2 = 4 then ((minstrellaw19_lives.f kj2).bind fun t337 => (some t337)) else (none)) else (none))) = some r := by first | (rw [hy317]; with_reducible exact H) | (have H2_ := (Option.bind_some _ _).symm.trans H; rw [hy317]; with_reducible exact H2_) | (have H2_ := (Option.bind_some _ _).symm.trans H; with_reducible exact H2_) | with_reducible exact H | (rw [hy317]; exact H) | exact H
              have Ny317 := Aside0.mk hy317
              clear hy317
              replace H := Option.bind_eq_some_iff.mp H
              obtain ⟨⟨t318, t319, t320, t323, t324, t325, t326, t329, t330, t331, t332, t335⟩, A350, H⟩ := H
              replace H : (if t314 = 4 then (if t335 = 4 then ((minstrellaw19_lives.f kj2).bind fun t337 => (some t337)) else (none)) else (none)) = some r := H
              have A35 := Aside0.mk A350
              clear A350
              by_cases c36 : t314 = 4
              ·rw [if_pos c36] at H
               have c36b0 : (t314 == 4) = true := beq_iff_eq.mpr c36
               have c36b1 : (t314 != 4) = false := bne_eq_false_iff_eq.mpr c36
               clear c36
               by_cases c37 : t335 = 4
               ·rw [if_pos c37] at H
                have c37b0 : (t335 == 4) = true := beq_iff_eq.mpr c37
                have c37b1 : (t335 != 4) = false := bne_eq_false_iff_eq.mpr c37
                clear c37
                replace H := Option.bind_eq_some_iff.mp H
                obtain ⟨t337, A380, H⟩ := H
                replace H : (some t337) = some r := H
                have A38 := Aside0.mk A380
                clear A380
                obtain rfl := Option.some.inj H
                obtain ⟨hcz39_0, hcz39_1, hcz39_2, hcz39_3, hcz39_4, hcz39_5, hcz39_6, hcz39_7, hcz39_8, hcz39_9, hcz39_10, hfz39_0, hfz39_1, hfz39_2, hfz39_3, hfz39_4, hfz39_5, hfz39_6, hfz39_7, hfz39_8, hfz39_9, hfz39_10⟩ := cf11 BK261.out
                go_wp2_with (first | ((with_reducible refine gate_callee (f := 10) rfl ?_); refine goesL_ (some 25) rfl rfl Tryd.func10 (by kernel_rfl) rfl #[.agg #[.int .u64 a0_0, .int .u64 a0_1, .slice A0_2 l0_2.length c0_2, .int .i64 a0_3, .int .u64 a0_4, .string a0_5, .slice A0_6 l0_6.length c0_6, .int .i64 a0_7, .int .u64 a0_8, .string a0_9, .slice A0_10 l0_10.length c0_10]] rfl pM ?_; (with_reducible refine (minstrellaw19_own.calls kj2 a0_0 a0_1 _ _ l0_2 a0_3 a0_4 a0_5 _ _ l0_6 a0_7 a0_8 a0_9 _ _ l0_10 t265 t266 t267 t270 t271 t272 t273 t276 t277 t278 t279 _ ?side1 ?side2 ?side3 ?side4 ?side5 ?side6 A17.out).mono ?_); (case side1 => exact pC (Kd.C_below HR0_2.out HB.out)); (case side2 => exact HC0_2.out); (case side3 => exact pC (Kd.C_below HR0_6.out HB.out)); (case side4 => exact HC0_6.out); (case side5 => exact pC (Kd.C_below HR0_10.out HB.out)); (case side6 => exact HC0_10.out); rintro e w40 ⟨v268, v274, v280, rfl, ho0, ho1, ho2, hb⟩; refine ⟨_, rfl, ?_⟩; have n0_ := Aside0.mk (Kd.R_lower ho0 (below_size pB)); have n1_ := Aside0.mk (Kd.R_lower ho1 (below_size pB)); have n2_ := Aside0.mk (Kd.R_lower ho2 (below_size pB)); have n3_ := Aside0.mk (pkb BK261.out hb); have n4_ := Aside0.mk (below_step pB hb); clear BK261; clear HB; have HO269 := n0_; have HO275 := n1_; have HO281 := n2_; have BK261 := n3_; have HB := n4_; clear n0_ n1_ n2_ n3_ n4_; (try clear hb); (try clear hb2); (try clear hk); (try clear hi); (try clear ho0); (try clear ho1); (try clear ho2); obtain ⟨Ao41, co41, eo41⟩ := Kd.R_slice HO269.out; subst eo41; obtain ⟨Ao42, co42, eo42⟩ := Kd.R_slice HO275.out; subst eo42; obtain ⟨Ao43, co43, eo43⟩ := Kd.R_slice HO281.out; subst eo43) | ((with_reducible refine gate_callee (f := 9) rfl ?_); refine goesL_ (some 26) rfl rfl Tryd.func9 (by kernel_rfl) rfl #[.agg #[.int .u64 t265, .int .u64 t266, .slice Ao41 t267.length co41, .int .i64 t270, .int .u64 t271, .string t272, .slice Ao42 t273.length co42, .int .i64 t276, .int .u64 t277, .string t278, .slice Ao43 t279.length co43]] rfl pM ?_; (with_reducible refine (snap_Save.calls kj2 t265 t266 _ _ t267 t270 t271 t272 (fun k_ => ((some k_ ≠ (.slice Ao43 t279.length co43 : Value).ownBlock ∧ some k_ ≠ (.slice Ao41 t267.length co41 : Value).ownBlock) ∧ k_ ≠ gb261)) _ _ t273 t276 t277 t278 (fun k_ => ((some k_ ≠ (.slice Ao42 t273.length co42 : Value).ownBlock ∧ some k_ ≠ (.slice Ao41 t267.length co41 : Value).ownBlock) ∧ k_ ≠ gb261)) _ _ t279 t282 t285 _ ?side1 ?side2 ?side3 ?side4 ?side5 A18.out).mono ?_); (case side1 => repeat (first | exact (Kd.R_reads' HO269.out).2.2 | (with_reducible refine Kd.C_alloc ?_ _) | (with_reducible refine Kd.C_drewN ?_ _) | (with_reducible refine Kd.C_drew ?_))); (case side2 => exact (Kd.R_reads' HO269.out).2.1); (case side3 => exact Kd.R_V (Kd.R_types (Kd.R_apart' (HO275.out) (Kd.R_typed HO269.out) (by decide)) BK261.out (by decide))); (case side4 => exact Kd.R_V (Kd.R_types (Kd.R_apart' (HO281.out) (Kd.R_typed HO269.out) (by decide)) BK261.out (by decide))); (case side5 => exact pG); rintro e w44 ⟨v283, rfl, ho0, hb⟩; refine ⟨_, rfl, ?_⟩; have n0_ := Aside0.mk (Kd.R_below (pR HO269.out) hb); have n1_ := Aside0.mk (Kd.R_below (pR HO275.out) hb); have n2_ := Aside0.mk (Kd.R_below (pR HO281.out) hb); have n3_ := Aside0.mk (Kd.R_lower (Kd.R_mono (ok' := fun k_ => True) ho0 (fun _ hk_ => trivial)) (below_size pB)); have n4_ := Aside0.mk (pkb BK261.out hb); have n5_ := Aside0.mk (below_step pB hb); clear HO269; clear HO275; clear HO281; clear BK261; clear HB; have HO269 := n0_; have HO275 := n1_; have HO281 := n2_; have HO284 := n3_; have BK261 := n4_; have HB := n5_; clear n0_ n1_ n2_ n3_ n4_ n5_; (try clear hb); (try clear hb2); (try clear hk); (try clear hi); (try clear ho0); obtain ⟨Ao45, co45, eo45⟩ := Kd.R_slice HO284.out; subst eo45) | ((with_reducible refine gate_dst (N := 36) rfl ?_); refine Kd.R_lit (Kd.int .u8) _ 5 ?hg (N := 36) ?hd (xs := ([] : List Int)) (inner := []) (ok := fun _ => True) (okp := fun _ => True) ?hr ?hp (fun _ hk => hk) trivial (Below.refl _ _) (Nat.le_refl _) (by simp) ?_; (case hd => rfl); (case hg => rfl); (case hr => first | (go_simp; done) | (go_simp; rfl)); (case hp => exact (Reps.none _ _)); intro v288 w46 ho47 hb hg_ hnew_; clear hg_ hnew_; (first | rw [← Ny287.out] at ho47 | (simp only [Int.reduceToNat] at ho47; rw [← Ny287.out] at ho47)); have n0_ := Aside0.mk (Kd.R_below (pR HO269.out) hb); have n1_ := Aside0.mk (Kd.R_below (pR HO275.out) hb); have n2_ := Aside0.mk (Kd.R_below (pR HO281.out) hb); have n3_ := Aside0.mk (Kd.R_elder' (pR HO284.out) (Kd.R_base ho47) hb); have n4_ := Aside0.mk (Kd.R_lower (Kd.R_new' ho47 (Kd.R_lt (pR HO284.out))) (below_size pB)); have n5_ := Aside0.mk (pkb BK261.out hb); have n6_ := Aside0.mk (below_step pB hb); clear HO269; clear HO275; clear HO281; clear HO284; clear BK261; clear HB; have HO269 := n0_; have HO275 := n1_; have HO281 := n2_; have HO284 := n3_; have HO289 := n4_; have BK261 := n5_; have HB := n6_; clear n0_ n1_ n2_ n3_ n4_ n5_ n6_; clear hb ho47; have q48 : ((ji22) : Int) ≤ ((t282.length : Int) : Int) := pD; obtain ⟨i048, hi048, _, hsz48, _⟩ := info_parts info5; have hroom48 : t282.length ≤ co45 := (Kd.R_reads' HO284.out).2.1; have hC48 : Kd.C (Kd.int .u8) _ Ao45 t282.length t282 := (Kd.R_reads' HO284.out).2.2; have hcut48 := cut_to (P := Tryd.prog) 31 5 .i64 Tryd.underlying31 hi048 Ao45 t282.length co45 (ji22) pD q48 hroom48; have hr48 := Kd.C_take (m := ((ji22) : Int).toNat) hC48 (by omega); have hy48 : y290.length = ((ji22) : Int).toNat := (by rw [Ny290.out, List.length_take]; omega); rw [← Ny290.out] at hr48; rw [← hy48] at hcut48; have HR293 := Aside0.mk hr48; have HC293 := Aside0.mk (show y290.length ≤ co45 from by omega); clear hr48 hC48 hroom48 hi048 hsz48; have KY48 := Aside0.mk hy48; clear hy48; have KL48 := Aside0.mk (show ((ji22) : Int).toNat ≤ t282.length from by omega); replace q48 := eq_true q48) | ((with_reducible refine gate_builtin (b := .append) (xs := #[.tmp 36, .tmp 43]) rfl ?_); at_builtin; refine Kd.R_append_rows (Kd.int .u8) (w0 := w) w.heap.size rfl (.tmp 36) (.tmp 43) 31 5 (.int .u8 0) 1 rfl Tryd.underlying31 info5 rfl (by decide) (by omega) v288 y287 y290 _ _ _ (fun k_ => some k_ ≠ (.slice Ao45 t282.length co45 : Value).ownBlock) (fun _ => False) rfl rfl ?aO ?aR (fun _ _ h => h) (fun _ h => h.elim) ?aF ?aB ?aS ?aL ?_; (case aR => repeat (first | exact (by repeat (first | (with_reducible exact HR293.out) | (with_reducible refine Kd.C_alloc ?_ _) | (with_reducible refine Kd.C_drewN ?_ _) | (with_reducible refine Kd.C_drew ?_) | exact HR293.out)) | (with_reducible refine Kd.C_alloc ?_ _) | (with_reducible refine Kd.C_drewN ?_ _) | (with_reducible refine Kd.C_drew ?_))); (case aB => exact pB); (case aF => exact (fun k_ hk => Kd.fresh' (Kd.R_lt (pR HO284.out)) k_ hk)); (case aO => exact (by (with_reducible repeat (first | apply Kd.R_alloc | apply Kd.R_drewN | apply Kd.R_drew)); exact Kd.R_mono HO289.out (fun _ hk => hk.2))); (case aS => exact (below_size pB)); (case aL => have := LMc25.out; omega); intro v295 w49 ho hb hg hat; rw [← Ny294.out] at ho; have n0_ := Aside0.mk (blk_grown (g := gb261) (o := .cells #[.int .u64 a0_0, .int .u64 a0_1, .slice A0_2 l0_2.length c0_2, .int .i64 a0_3, .int .u64 a0_4, .string a0_5, .slice A0_6 l0_6.length c0_6, .int .i64 a0_7, .int .u64 a0_8, .string a0_9, .slice A0_10 l0_10.length c0_10] 28 (0, 0)) (pK BK261.out) hg (pX HO289.out BK261.out)); have n1_ := Aside0.mk (Kd.R_over' (pR HO269.out) (Kd.R_typed (pR HO289.out)) (by decide) hg); have n2_ := Aside0.mk (Kd.R_over' (pR HO275.out) (Kd.R_typed (pR HO289.out)) (by decide) hg); have n3_ := Aside0.mk (Kd.R_over' (pR HO281.out) (Kd.R_typed (pR HO289.out)) (by decide) hg); have n4_ := Aside0.mk (Kd.R_after (ok := (fun _ => True)) (pR HO284.out) hg hat); have n5_ := Aside0.mk (hb); have n6_ := Aside0.mk ((show Kd.C (Kd.int .u8) w49 Ao45 y290.length y290 from by rw [Ny290.out]; exact Kd.C_take (m := ((ji22) : Int).toNat) ((Kd.R_reads' (Kd.R_after (ok := (fun _ => True)) (pR HO284.out) hg hat)).2.2) KL48.out)); have n7_ := Aside0.mk (ho); clear BK261; clear HO269; clear HO275; clear HO281; clear HO284; clear HB; clear HR293; clear HO289; have BK261 := n0_; have HO269 := n1_; have HO275 := n2_; have HO281 := n3_; have HO284 := n4_; have HB := n5_; have HR293 := n6_; have HO296 := n7_; clear n0_ n1_ n2_ n3_ n4_ n5_ n6_ n7_; clear ho hb hg hat; obtain ⟨Ao50, co50, eo50⟩ := Kd.R_slice HO296.out; subst eo50) | ((with_reducible refine gate_callee (f := 14) rfl ?_); refine goesL_ (some 45) rfl rfl Tryd.func14 (by kernel_rfl) rfl #[.slice Ao50 y294.length co50] rfl pM ?_; (with_reducible refine (snap_Load.calls kj2 _ _ y294 t297 t298 t299 t302 t303 t304 t305 t308 t309 t310 t311 t314 _ ?side1 ?side2 ?side3 A26.out).mono ?_); (case side1 => repeat (first | exact (Kd.R_reads' HO296.out).2.2 | (with_reducible refine Kd.C_alloc ?_ _) | (with_reducible refine Kd.C_drewN ?_ _) | (with_reducible refine Kd.C_drew ?_))); (case side2 => exact (Kd.R_reads' HO296.out).2.1); (case side3 => exact pG); rintro e w51 ⟨v300, v306, v312, rfl, ho0, ho1, ho2, hb⟩; refine ⟨_, rfl, ?_⟩; have n0_ := Aside0.mk (Kd.R_elder' (pR HO269.out) (Kd.R_base ho0) hb); have n1_ := Aside0.mk (Kd.R_below (pR HO275.out) hb); have n2_ := Aside0.mk (Kd.R_below (pR HO281.out) hb); have n3_ := Aside0.mk (Kd.R_below (pR HO284.out) hb); have n4_ := Aside0.mk (Kd.R_below (pR HO296.out) hb); have n5_ := Aside0.mk (Kd.R_lower (Kd.R_new' (Kd.R_mono (ok' := fun k_ => True) ho0 (fun _ hk_ => trivial)) (Kd.R_lt (pR HO269.out))) (below_size pB)); have n6_ := Aside0.mk (Kd.V_lower (Kd.V_mono (ok' := fun k_ => some k_ ≠ (v300 : Value).ownBlock ∧ some k_ ≠ (.slice Ao41 t267.length co41 : Value).ownBlock ∧ some k_ ≠ (.slice Ao42 t273.length co42 : Value).ownBlock ∧ some k_ ≠ (.slice Ao43 t279.length co43 : Value).ownBlock ∧ some k_ ≠ (.slice Ao45 t282.length co45 : Value).ownBlock ∧ some k_ ≠ (.slice Ao50 y294.length co50 : Value).ownBlock ∧ k_ ≠ gb261) ho1 (fun k_ hk_ => ⟨hk_.2, (Kd.fresh' (Kd.R_lt (pR HO269.out)) k_ hk_.1), (Kd.fresh' (Kd.R_lt (pR HO275.out)) k_ hk_.1), (Kd.fresh' (Kd.R_lt (pR HO281.out)) k_ hk_.1), (Kd.fresh' (Kd.R_lt (pR HO284.out)) k_ hk_.1), (Kd.fresh' (Kd.R_lt (pR HO296.out)) k_ hk_.1), (Kd.freshB (g := gb261) (o := .cells #[.int .u64 a0_0, .int .u64 a0_1, .slice A0_2 l0_2.length c0_2, .int .i64 a0_3, .int .u64 a0_4, .string a0_5, .slice A0_6 l0_6.length c0_6, .int .i64 a0_7, .int .u64 a0_8, .string a0_9, .slice A0_10 l0_10.length c0_10] 28 (0, 0)) (pK BK261.out) k_ hk_.1)⟩)) (below_size pB)); have n7_ := Aside0.mk (Kd.V_lower (Kd.V_mono (ok' := fun k_ => some k_ ≠ (v300 : Value).ownBlock ∧ some k_ ≠ (.slice Ao41 t267.length co41 : Value).ownBlock ∧ some k_ ≠ (.slice Ao42 t273.length co42 : Value).ownBlock ∧ some k_ ≠ (.slice Ao43 t279.length co43 : Value).ownBlock ∧ some k_ ≠ (.slice Ao45 t282.length co45 : Value).ownBlock ∧ some k_ ≠ (.slice Ao50 y294.length co50 : Value).ownBlock ∧ k_ ≠ gb261) ho2 (fun k_ hk_ => ⟨hk_.2, (Kd.fresh' (Kd.R_lt (pR HO269.out)) k_ hk_.1), (Kd.fresh' (Kd.R_lt (pR HO275.out)) k_ hk_.1), (Kd.fresh' (Kd.R_lt (pR HO281.out)) k_ hk_.1), (Kd.fresh' (Kd.R_lt (pR HO284.out)) k_ hk_.1), (Kd.fresh' (Kd.R_lt (pR HO296.out)) k_ hk_.1), (Kd.freshB (g := gb261) (o := .cells #[.int .u64 a0_0, .int .u64 a0_1, .slice A0_2 l0_2.length c0_2, .int .i64 a0_3, .int .u64 a0_4, .string a0_5, .slice A0_6 l0_6.length c0_6, .int .i64 a0_7, .int .u64 a0_8, .string a0_9, .slice A0_10 l0_10.length c0_10] 28 (0, 0)) (pK BK261.out) k_ hk_.1)⟩)) (below_size pB)); have n8_ := Aside0.mk (pkb BK261.out hb); have n9_ := Aside0.mk (Kd.C_below (by repeat (first | (with_reducible exact HR293.out) | (with_reducible refine Kd.C_alloc ?_ _) | (with_reducible refine Kd.C_drewN ?_ _) | (with_reducible refine Kd.C_drew ?_) | exact HR293.out)) hb); have n10_ := Aside0.mk (below_step pB hb); clear HO269; clear HO275; clear HO281; clear HO284; clear HO296; clear BK261; clear HR293; clear HB; have HO269 := n0_; have HO275 := n1_; have HO281 := n2_; have HO284 := n3_; have HO296 := n4_; have HO301 := n5_; have HO307 := n6_; have HO313 := n7_; have BK261 := n8_; have HR293 := n9_; have HB := n10_; clear n0_ n1_ n2_ n3_ n4_ n5_ n6_ n7_ n8_ n9_ n10_; (try clear hb); (try clear hb2); (try clear hk); (try clear hi); (try clear ho0); (try clear ho1); (try clear ho2)) | ((with_reducible refine gate_dst (N := 7) rfl ?_); refine box_event ?hg (N := 7) ?hd (cs := #[.int .u64 0, .int .u64 0, .slice none 0 0, .int .i64 0, .int .u64 0, .string (⟨#[]⟩ : ByteArray), .slice none 0 0, .int .i64 0, .int .u64 0, .string (⟨#[]⟩ : ByteArray), .slice none 0 0]) (t := 28) ?hr ?_; (case hd => rfl); (case hg => rfl); (case hr => first | (go_simp; done) | (go_simp; rfl)); intro gb315 hg w52 hbox hb; have n0_ := Aside0.mk (Kd.R_below (pR HO269.out) hb); have n1_ := Aside0.mk (Kd.R_below (pR HO275.out) hb); have n2_ := Aside0.mk (Kd.R_below (pR HO281.out) hb); have n3_ := Aside0.mk (Kd.R_below (pR HO284.out) hb); have n4_ := Aside0.mk (Kd.R_below (pR HO296.out) hb); have n5_ := Aside0.mk (Kd.R_below (pR HO301.out) hb); have n6_ := Aside0.mk (Kd.V_below (Kd.V_elderB (pV HO307.out) gb315 (Nat.le_of_eq hg.symm)) hb); have n7_ := Aside0.mk (Kd.V_below (Kd.V_elderB (pV HO313.out) gb315 (Nat.le_of_eq hg.symm)) hb); have n8_ := Aside0.mk (pkb BK261.out hb); have n9_ := Aside0.mk (Kd.C_below (by repeat (first | (with_reducible exact HR293.out) | (with_reducible refine Kd.C_alloc ?_ _) | (with_reducible refine Kd.C_drewN ?_ _) | (with_reducible refine Kd.C_drew ?_) | exact HR293.out)) hb); have n10_ := Aside0.mk (below_step pB hb); have n11_ := Aside0.mk (hbox); have n12_ := Aside0.mk ((by rw [hg]; exact (below_size pB) : w.heap.size ≤ gb315)); have n13_ := Aside0.mk ((by rw [hg]; exact (below_size pB) : w.heap.size ≤ gb315)); have n14_ := Aside0.mk ((by rw [hg]; exact Nat.ne_of_lt (pkl BK261.out) : gb261 ≠ gb315)); have n15_ := Aside0.mk ((by rw [hg]; exact Nat.ne_of_gt (pkl BK261.out) : gb315 ≠ gb261)); clear HO269; clear HO275; clear HO281; clear HO284; clear HO296; clear HO301; clear HO307; clear HO313; clear BK261; clear HR293; clear HB; have HO269 := n0_; have HO275 := n1_; have HO281 := n2_; have HO284 := n3_; have HO296 := n4_; have HO301 := n5_; have HO307 := n6_; have HO313 := n7_; have BK261 := n8_; have HR293 := n9_; have HB := n10_; have BK315 := n11_; have GW315 := n12_; have GE315 := n13_; have NB261_315 := n14_; have NB315_261 := n15_; clear n0_ n1_ n2_ n3_ n4_ n5_ n6_ n7_ n8_ n9_ n10_ n11_ n12_ n13_ n14_ n15_; clear hb hbox hg; have hnb53 := NB315_261.out; have hnc53 := NB261_315.out; obtain ⟨hcz54_0, hcz54_1, hcz54_2, hcz54_3, hcz54_4, hcz54_5, hcz54_6, hcz54_7, hcz54_8, hcz54_9, hcz54_10, hfz54_0, hfz54_1, hfz54_2, hfz54_3, hfz54_4, hfz54_5, hfz54_6, hfz54_7, hfz54_8, hfz54_9, hfz54_10⟩ := cf11 BK315.out; obtain ⟨Ao55, co55, eo55⟩ := Kd.R_slice HO301.out; subst eo55; obtain ⟨Ao56, co56, eo56⟩ := Kd.V_slice HO307.out; subst eo56; obtain ⟨Ao57, co57, eo57⟩ := Kd.V_slice HO313.out; subst eo57; have p316 : 0 ≤ ((ji28) : Int) := pD; have q316 : (ji28) < (t282.length : Int) := pD; obtain ⟨ad316, e316, hx316_0⟩ := Kd.at_int (Kd.R_reads' HO284.out).2.2 (ji28) p316 q316; cases e316; have hn316_0 : ad316.block ≠ gb315 := Kd.own_blk (pX HO284.out BK315.out); have hn316_1 : ad316.block ≠ gb315 := Kd.own_blk (pX HO284.out BK315.out); have hn316_2 : ad316.block ≠ gb315 := Kd.own_blk (pX HO284.out BK315.out); have hn316_3 : ad316.block ≠ gb315 := Kd.own_blk (pX HO284.out BK315.out); have hn316_4 : ad316.block ≠ gb315 := Kd.own_blk (pX HO284.out BK315.out); have hn316_5 : ad316.block ≠ gb315 := Kd.own_blk (pX HO284.out BK315.out); have hn316_6 : ad316.block ≠ gb315 := Kd.own_blk (pX HO284.out BK315.out); have hn316_7 : ad316.block ≠ gb315 := Kd.own_blk (pX HO284.out BK315.out); have hn316_8 : ad316.block ≠ gb315 := Kd.own_blk (pX HO284.out BK315.out); have hn316_9 : ad316.block ≠ gb315 := Kd.own_blk (pX HO284.out BK315.out); have hn316_10 : ad316.block ≠ gb315 := Kd.own_blk (pX HO284.out BK315.out); replace hx316_0 := (cell_far (p := ⟨gb315, 0, none⟩) (pW hn316_0) (.int .u64 t297)).trans hx316_0; replace hx316_0 := (cell_far (p := ⟨gb315, 1, none⟩) (pW hn316_1) (.int .u64 t298)).trans hx316_0; replace hx316_0 := (cell_far (p := ⟨gb315, 2, none⟩) (pW hn316_2) (.slice Ao55 t299.length co55)).trans hx316_0; replace hx316_0 := (cell_far (p := ⟨gb315, 3, none⟩) (pW hn316_3) (.int .i64 t302)).trans hx316_0; replace hx316_0 := (cell_far (p := ⟨gb315, 4, none⟩) (pW hn316_4) (.int .u64 t303)).trans hx316_0; replace hx316_0 := (cell_far (p := ⟨gb315, 5, none⟩) (pW hn316_5) (.string t304)).trans hx316_0; replace hx316_0 := (cell_far (p := ⟨gb315, 6, none⟩) (pW hn316_6) (.slice Ao56 t305.length co56)).trans hx316_0; replace hx316_0 := (cell_far (p := ⟨gb315, 7, none⟩) (pW hn316_7) (.int .i64 t308)).trans hx316_0; replace hx316_0 := (cell_far (p := ⟨gb315, 8, none⟩) (pW hn316_8) (.int .u64 t309)).trans hx316_0; replace hx316_0 := (cell_far (p := ⟨gb315, 9, none⟩) (pW hn316_9) (.string t310)).trans hx316_0; replace hx316_0 := (cell_far (p := ⟨gb315, 10, none⟩) (pW hn316_10) (.slice Ao57 t311.length co57)).trans hx316_0; clear hn316_0; clear hn316_1; clear hn316_2; clear hn316_3; clear hn316_4; clear hn316_5; clear hn316_6; clear hn316_7; clear hn316_8; clear hn316_9; clear hn316_10; replace p316 := eq_true p316; replace q316 := eq_true q316; have p34 : 0 ≤ ((ji28) : Int) := pD; have q34 : ((ji28) : Int) < ((t282.length : Int) : Int) := pD; obtain ⟨go34, co34, eo34, gb34, gl34, cl34, HG34⟩ := Kd.R_form HO284.out (by omega); (first | cases eo34 | (injection eo34 with ea_ en_ ec_; (first | subst ea_ | (injection ea_ with ea_; subst ea_)); subst ec_; clear en_)); have GB34 := Aside0.mk gb34; have GG34 := Aside0.mk HG34; clear gb34 gl34 HG34; (first | simp only [add_plain] at hx316_0 | skip); obtain ⟨hx34_0, hf34_0⟩ := Kd.R_celln 0 (Kd.R_far (p := ⟨gb315, 10, none⟩) (Kd.R_far (p := ⟨gb315, 9, none⟩) (Kd.R_far (p := ⟨gb315, 8, none⟩) (Kd.R_far (p := ⟨gb315, 7, none⟩) (Kd.R_far (p := ⟨gb315, 6, none⟩) (Kd.R_far (p := ⟨gb315, 5, none⟩) (Kd.R_far (p := ⟨gb315, 4, none⟩) (Kd.R_far (p := ⟨gb315, 3, none⟩) (Kd.R_far (p := ⟨gb315, 2, none⟩) (Kd.R_far (p := ⟨gb315, 1, none⟩) (Kd.R_far (p := ⟨gb315, 0, none⟩) (Kd.R_types HO284.out BK315.out (by decide)) (fun _ hk => hk.2) (.int .u64 t297)) (fun _ hk => hk.2) (.int .u64 t298)) (fun _ hk => hk.2) (.slice Ao55 t299.length co55)) (fun _ hk => hk.2) (.int .i64 t302)) (fun _ hk => hk.2) (.int .u64 t303)) (fun _ hk => hk.2) (.string t304)) (fun _ hk => hk.2) (.slice Ao56 t305.length co56)) (fun _ hk => hk.2) (.int .i64 t308)) (fun _ hk => hk.2) (.int .u64 t309)) (fun _ hk => hk.2) (.string t310)) (fun _ hk => hk.2) (.slice Ao57 t311.length co57)) ((ji28) : Int) p34 q34; replace p34 := eq_true p34; replace q34 := eq_true q34) | ((with_reducible refine gate_store (t := 5) (p := 66) rfl ?_); have n0_ : Aside0 (Kd.R (Kd.int .i64) 3 (((((((((((w52.setCell ⟨gb315, 0, none⟩ (.int .u64 t297)).setCell ⟨gb315, 1, none⟩ (.int .u64 t298)).setCell ⟨gb315, 2, none⟩ (.slice Ao55 t299.length co55)).setCell ⟨gb315, 3, none⟩ (.int .i64 t302)).setCell ⟨gb315, 4, none⟩ (.int .u64 t303)).setCell ⟨gb315, 5, none⟩ (.string t304)).setCell ⟨gb315, 6, none⟩ (.slice Ao56 t305.length co56)).setCell ⟨gb315, 7, none⟩ (.int .i64 t308)).setCell ⟨gb315, 8, none⟩ (.int .u64 t309)).setCell ⟨gb315, 9, none⟩ (.string t310)).setCell ⟨gb315, 10, none⟩ (.slice Ao57 t311.length co57)) w.heap.size (fun k_ => some k_ ≠ (.slice Ao55 t299.length co55 : Value).ownBlock) (.slice Ao41 t267.length co41) t267) := ⟨by (with_reducible repeat (first | apply Kd.R_alloc | apply Kd.R_drewN | apply Kd.R_drew)); exact Kd.R_mono (Kd.R_far (p := ⟨gb315, 10, none⟩) (Kd.R_far (p := ⟨gb315, 9, none⟩) (Kd.R_far (p := ⟨gb315, 8, none⟩) (Kd.R_far (p := ⟨gb315, 7, none⟩) (Kd.R_far (p := ⟨gb315, 6, none⟩) (Kd.R_far (p := ⟨gb315, 5, none⟩) (Kd.R_far (p := ⟨gb315, 4, none⟩) (Kd.R_far (p := ⟨gb315, 3, none⟩) (Kd.R_far (p := ⟨gb315, 2, none⟩) (Kd.R_far (p := ⟨gb315, 1, none⟩) (Kd.R_far (p := ⟨gb315, 0, none⟩) (Kd.R_types HO269.out BK315.out (by decide)) (fun _ hk => hk.2) (.int .u64 t297)) (fun _ hk => hk.2) (.int .u64 t298)) (fun _ hk => hk.2) (.slice Ao55 t299.length co55)) (fun _ hk => hk.2) (.int .i64 t302)) (fun _ hk => hk.2) (.int .u64 t303)) (fun _ hk => hk.2) (.string t304)) (fun _ hk => hk.2) (.slice Ao56 t305.length co56)) (fun _ hk => hk.2) (.int .i64 t308)) (fun _ hk => hk.2) (.int .u64 t309)) (fun _ hk => hk.2) (.string t310)) (fun _ hk => hk.2) (.slice Ao57 t311.length co57)) (fun _ hk => hk.1.2)⟩; have n1_ : Aside0 (Kd.R k26 26 (((((((((((w52.setCell ⟨gb315, 0, none⟩ (.int .u64 t297)).setCell ⟨gb315, 1, none⟩ (.int .u64 t298)).setCell ⟨gb315, 2, none⟩ (.slice Ao55 t299.length co55)).setCell ⟨gb315, 3, none⟩ (.int .i64 t302)).setCell ⟨gb315, 4, none⟩ (.int .u64 t303)).setCell ⟨gb315, 5, none⟩ (.string t304)).setCell ⟨gb315, 6, none⟩ (.slice Ao56 t305.length co56)).setCell ⟨gb315, 7, none⟩ (.int .i64 t308)).setCell ⟨gb315, 8, none⟩ (.int .u64 t309)).setCell ⟨gb315, 9, none⟩ (.string t310)).setCell ⟨gb315, 10, none⟩ (.slice Ao57 t311.length co57)) w.heap.size (fun k_ => some k_ ≠ (.slice Ao43 t279.length co43 : Value).ownBlock) (.slice Ao42 t273.length co42) t273) := ⟨by (with_reducible repeat (first | apply Kd.R_alloc | apply Kd.R_drewN | apply Kd.R_drew)); exact Kd.R_mono (Kd.R_far (p := ⟨gb315, 10, none⟩) (Kd.R_far (p := ⟨gb315, 9, none⟩) (Kd.R_far (p := ⟨gb315, 8, none⟩) (Kd.R_far (p := ⟨gb315, 7, none⟩) (Kd.R_far (p := ⟨gb315, 6, none⟩) (Kd.R_far (p := ⟨gb315, 5, none⟩) (Kd.R_far (p := ⟨gb315, 4, none⟩) (Kd.R_far (p := ⟨gb315, 3, none⟩) (Kd.R_far (p := ⟨gb315, 2, none⟩) (Kd.R_far (p := ⟨gb315, 1, none⟩) (Kd.R_far (p := ⟨gb315, 0, none⟩) (Kd.R_types HO275.out BK315.out (by decide)) (fun _ hk => hk.2) (.int .u64 t297)) (fun _ hk => hk.2) (.int .u64 t298)) (fun _ hk => hk.2) (.slice Ao55 t299.length co55)) (fun _ hk => hk.2) (.int .i64 t302)) (fun _ hk => hk.2) (.int .u64 t303)) (fun _ hk => hk.2) (.string t304)) (fun _ hk => hk.2) (.slice Ao56 t305.length co56)) (fun _ hk => hk.2) (.int .i64 t308)) (fun _ hk => hk.2) (.int .u64 t309)) (fun _ hk => hk.2) (.string t310)) (fun _ hk => hk.2) (.slice Ao57 t311.length co57)) (fun _ hk => hk.1)⟩; have n2_ : Aside0 (Kd.R k26 26 (((((((((((w52.setCell ⟨gb315, 0, none⟩ (.int .u64 t297)).setCell ⟨gb315, 1, none⟩ (.int .u64 t298)).setCell ⟨gb315, 2, none⟩ (.slice Ao55 t299.length co55)).setCell ⟨gb315, 3, none⟩ (.int .i64 t302)).setCell ⟨gb315, 4, none⟩ (.int .u64 t303)).setCell ⟨gb315, 5, none⟩ (.string t304)).setCell ⟨gb315, 6, none⟩ (.slice Ao56 t305.length co56)).setCell ⟨gb315, 7, none⟩ (.int .i64 t308)).setCell ⟨gb315, 8, none⟩ (.int .u64 t309)).setCell ⟨gb315, 9, none⟩ (.string t310)).setCell ⟨gb315, 10, none⟩ (.slice Ao57 t311.length co57)) w.heap.size (fun k_ => some k_ ≠ (.slice Ao42 t273.length co42 : Value).ownBlock) (.slice Ao43 t279.length co43) t279) := ⟨by (with_reducible repeat (first | apply Kd.R_alloc | apply Kd.R_drewN | apply Kd.R_drew)); exact Kd.R_mono (Kd.R_far (p := ⟨gb315, 10, none⟩) (Kd.R_far (p := ⟨gb315, 9, none⟩) (Kd.R_far (p := ⟨gb315, 8, none⟩) (Kd.R_far (p := ⟨gb315, 7, none⟩) (Kd.R_far (p := ⟨gb315, 6, none⟩) (Kd.R_far (p := ⟨gb315, 5, none⟩) (Kd.R_far (p := ⟨gb315, 4, none⟩) (Kd.R_far (p := ⟨gb315, 3, none⟩) (Kd.R_far (p := ⟨gb315, 2, none⟩) (Kd.R_far (p := ⟨gb315, 1, none⟩) (Kd.R_far (p := ⟨gb315, 0, none⟩) (Kd.R_types HO281.out BK315.out (by decide)) (fun _ hk => hk.2) (.int .u64 t297)) (fun _ hk => hk.2) (.int .u64 t298)) (fun _ hk => hk.2) (.slice Ao55 t299.length co55)) (fun _ hk => hk.2) (.int .i64 t302)) (fun _ hk => hk.2) (.int .u64 t303)) (fun _ hk => hk.2) (.string t304)) (fun _ hk => hk.2) (.slice Ao56 t305.length co56)) (fun _ hk => hk.2) (.int .i64 t308)) (fun _ hk => hk.2) (.int .u64 t309)) (fun _ hk => hk.2) (.string t310)) (fun _ hk => hk.2) (.slice Ao57 t311.length co57)) (fun _ hk => hk.1)⟩; have n3_ : Aside0 (Kd.R (Kd.int .u8) 5 (((((((((((w52.setCell ⟨gb315, 0, none⟩ (.int .u64 t297)).setCell ⟨gb315, 1, none⟩ (.int .u64 t298)).setCell ⟨gb315, 2, none⟩ (.slice Ao55 t299.length co55)).setCell ⟨gb315, 3, none⟩ (.int .i64 t302)).setCell ⟨gb315, 4, none⟩ (.int .u64 t303)).setCell ⟨gb315, 5, none⟩ (.string t304)).setCell ⟨gb315, 6, none⟩ (.slice Ao56 t305.length co56)).setCell ⟨gb315, 7, none⟩ (.int .i64 t308)).setCell ⟨gb315, 8, none⟩ (.int .u64 t309)).setCell ⟨gb315, 9, none⟩ (.string t310)).setCell ⟨gb315, 10, none⟩ (.slice Ao57 t311.length co57)) w.heap.size (fun k_ => some k_ ≠ (.slice Ao50 y294.length co50 : Value).ownBlock) (.slice (some ⟨go34, 0, none⟩) t282.length co45) t282) := ⟨by (with_reducible repeat (first | apply Kd.R_alloc | apply Kd.R_drewN | apply Kd.R_drew)); exact Kd.R_mono (Kd.R_far (p := ⟨gb315, 10, none⟩) (Kd.R_far (p := ⟨gb315, 9, none⟩) (Kd.R_far (p := ⟨gb315, 8, none⟩) (Kd.R_far (p := ⟨gb315, 7, none⟩) (Kd.R_far (p := ⟨gb315, 6, none⟩) (Kd.R_far (p := ⟨gb315, 5, none⟩) (Kd.R_far (p := ⟨gb315, 4, none⟩) (Kd.R_far (p := ⟨gb315, 3, none⟩) (Kd.R_far (p := ⟨gb315, 2, none⟩) (Kd.R_far (p := ⟨gb315, 1, none⟩) (Kd.R_far (p := ⟨gb315, 0, none⟩) (Kd.R_types HO284.out BK315.out (by decide)) (fun _ hk => hk.2) (.int .u64 t297)) (fun _ hk => hk.2) (.int .u64 t298)) (fun _ hk => hk.2) (.slice Ao55 t299.length co55)) (fun _ hk => hk.2) (.int .i64 t302)) (fun _ hk => hk.2) (.int .u64 t303)) (fun _ hk => hk.2) (.string t304)) (fun _ hk => hk.2) (.slice Ao56 t305.length co56)) (fun _ hk => hk.2) (.int .i64 t308)) (fun _ hk => hk.2) (.int .u64 t309)) (fun _ hk => hk.2) (.string t310)) (fun _ hk => hk.2) (.slice Ao57 t311.length co57)) (fun _ hk => hk.1.2)⟩; have n4_ : Aside0 (Kd.R (Kd.int .u8) 5 (((((((((((w52.setCell ⟨gb315, 0, none⟩ (.int .u64 t297)).setCell ⟨gb315, 1, none⟩ (.int .u64 t298)).setCell ⟨gb315, 2, none⟩ (.slice Ao55 t299.length co55)).setCell ⟨gb315, 3, none⟩ (.int .i64 t302)).setCell ⟨gb315, 4, none⟩ (.int .u64 t303)).setCell ⟨gb315, 5, none⟩ (.string t304)).setCell ⟨gb315, 6, none⟩ (.slice Ao56 t305.length co56)).setCell ⟨gb315, 7, none⟩ (.int .i64 t308)).setCell ⟨gb315, 8, none⟩ (.int .u64 t309)).setCell ⟨gb315, 9, none⟩ (.string t310)).setCell ⟨gb315, 10, none⟩ (.slice Ao57 t311.length co57)) w.heap.size (fun k_ => some k_ ≠ (.slice (some ⟨go34, 0, none⟩) t282.length co45 : Value).ownBlock) (.slice Ao50 y294.length co50) y294) := ⟨by (with_reducible repeat (first | apply Kd.R_alloc | apply Kd.R_drewN | apply Kd.R_drew)); exact Kd.R_mono (Kd.R_far (p := ⟨gb315, 10, none⟩) (Kd.R_far (p := ⟨gb315, 9, none⟩) (Kd.R_far (p := ⟨gb315, 8, none⟩) (Kd.R_far (p := ⟨gb315, 7, none⟩) (Kd.R_far (p := ⟨gb315, 6, none⟩) (Kd.R_far (p := ⟨gb315, 5, none⟩) (Kd.R_far (p := ⟨gb315, 4, none⟩) (Kd.R_far (p := ⟨gb315, 3, none⟩) (Kd.R_far (p := ⟨gb315, 2, none⟩) (Kd.R_far (p := ⟨gb315, 1, none⟩) (Kd.R_far (p := ⟨gb315, 0, none⟩) (Kd.R_types HO296.out BK315.out (by decide)) (fun _ hk => hk.2) (.int .u64 t297)) (fun _ hk => hk.2) (.int .u64 t298)) (fun _ hk => hk.2) (.slice Ao55 t299.length co55)) (fun _ hk => hk.2) (.int .i64 t302)) (fun _ hk => hk.2) (.int .u64 t303)) (fun _ hk => hk.2) (.string t304)) (fun _ hk => hk.2) (.slice Ao56 t305.length co56)) (fun _ hk => hk.2) (.int .i64 t308)) (fun _ hk => hk.2) (.int .u64 t309)) (fun _ hk => hk.2) (.string t310)) (fun _ hk => hk.2) (.slice Ao57 t311.length co57)) (fun _ hk => hk.1)⟩; have n5_ : Aside0 (Kd.R (Kd.int .i64) 3 (((((((((((w52.setCell ⟨gb315, 0, none⟩ (.int .u64 t297)).setCell ⟨gb315, 1, none⟩ (.int .u64 t298)).setCell ⟨gb315, 2, none⟩ (.slice Ao55 t299.length co55)).setCell ⟨gb315, 3, none⟩ (.int .i64 t302)).setCell ⟨gb315, 4, none⟩ (.int .u64 t303)).setCell ⟨gb315, 5, none⟩ (.string t304)).setCell ⟨gb315, 6, none⟩ (.slice Ao56 t305.length co56)).setCell ⟨gb315, 7, none⟩ (.int .i64 t308)).setCell ⟨gb315, 8, none⟩ (.int .u64 t309)).setCell ⟨gb315, 9, none⟩ (.string t310)).setCell ⟨gb315, 10, none⟩ (.slice Ao57 t311.length co57)) w.heap.size (fun k_ => some k_ ≠ (.slice Ao41 t267.length co41 : Value).ownBlock) (.slice Ao55 t299.length co55) t299) := ⟨by (with_reducible repeat (first | apply Kd.R_alloc | apply Kd.R_drewN | apply Kd.R_drew)); exact Kd.R_mono (Kd.R_far (p := ⟨gb315, 10, none⟩) (Kd.R_far (p := ⟨gb315, 9, none⟩) (Kd.R_far (p := ⟨gb315, 8, none⟩) (Kd.R_far (p := ⟨gb315, 7, none⟩) (Kd.R_far (p := ⟨gb315, 6, none⟩) (Kd.R_far (p := ⟨gb315, 5, none⟩) (Kd.R_far (p := ⟨gb315, 4, none⟩) (Kd.R_far (p := ⟨gb315, 3, none⟩) (Kd.R_far (p := ⟨gb315, 2, none⟩) (Kd.R_far (p := ⟨gb315, 1, none⟩) (Kd.R_far (p := ⟨gb315, 0, none⟩) (Kd.R_types HO301.out BK315.out (by decide)) (fun _ hk => hk.2) (.int .u64 t297)) (fun _ hk => hk.2) (.int .u64 t298)) (fun _ hk => hk.2) (.slice Ao55 t299.length co55)) (fun _ hk => hk.2) (.int .i64 t302)) (fun _ hk => hk.2) (.int .u64 t303)) (fun _ hk => hk.2) (.string t304)) (fun _ hk => hk.2) (.slice Ao56 t305.length co56)) (fun _ hk => hk.2) (.int .i64 t308)) (fun _ hk => hk.2) (.int .u64 t309)) (fun _ hk => hk.2) (.string t310)) (fun _ hk => hk.2) (.slice Ao57 t311.length co57)) (fun _ hk => hk.1.2)⟩; have n6_ : Aside0 (Kd.V k26 26 (((((((((((w52.setCell ⟨gb315, 0, none⟩ (.int .u64 t297)).setCell ⟨gb315, 1, none⟩ (.int .u64 t298)).setCell ⟨gb315, 2, none⟩ (.slice Ao55 t299.length co55)).setCell ⟨gb315, 3, none⟩ (.int .i64 t302)).setCell ⟨gb315, 4, none⟩ (.int .u64 t303)).setCell ⟨gb315, 5, none⟩ (.string t304)).setCell ⟨gb315, 6, none⟩ (.slice Ao56 t305.length co56)).setCell ⟨gb315, 7, none⟩ (.int .i64 t308)).setCell ⟨gb315, 8, none⟩ (.int .u64 t309)).setCell ⟨gb315, 9, none⟩ (.string t310)).setCell ⟨gb315, 10, none⟩ (.slice Ao57 t311.length co57)) w.heap.size (fun k_ => some k_ ≠ (.slice Ao41 t267.length co41 : Value).ownBlock ∧ some k_ ≠ (.slice Ao42 t273.length co42 : Value).ownBlock ∧ some k_ ≠ (.slice Ao43 t279.length co43 : Value).ownBlock ∧ some k_ ≠ (.slice (some ⟨go34, 0, none⟩) t282.length co45 : Value).ownBlock ∧ some k_ ≠ (.slice Ao50 y294.length co50 : Value).ownBlock ∧ some k_ ≠ (.slice Ao55 t299.length co55 : Value).ownBlock ∧ k_ ≠ gb261 ∧ k_ ≠ gb315) (.slice Ao56 t305.length co56) t305) := ⟨by (with_reducible repeat (first | apply Kd.V_alloc | apply Kd.V_drewN | apply Kd.V_drew)); exact Kd.V_mono (Kd.V_far (p := ⟨gb315, 10, none⟩) (Kd.V_far (p := ⟨gb315, 9, none⟩) (Kd.V_far (p := ⟨gb315, 8, none⟩) (Kd.V_far (p := ⟨gb315, 7, none⟩) (Kd.V_far (p := ⟨gb315, 6, none⟩) (Kd.V_far (p := ⟨gb315, 5, none⟩) (Kd.V_far (p := ⟨gb315, 4, none⟩) (Kd.V_far (p := ⟨gb315, 3, none⟩) (Kd.V_far (p := ⟨gb315, 2, none⟩) (Kd.V_far (p := ⟨gb315, 1, none⟩) (Kd.V_far (p := ⟨gb315, 0, none⟩) (Kd.V_mono HO307.out (fun k_ hk => (⟨hk, hk.2⟩ : _ ∧ k_ ≠ gb315))) (fun _ hk => hk.2) (.int .u64 t297)) (fun _ hk => hk.2) (.int .u64 t298)) (fun _ hk => hk.2) (.slice Ao55 t299.length co55)) (fun _ hk => hk.2) (.int .i64 t302)) (fun _ hk => hk.2) (.int .u64 t303)) (fun _ hk => hk.2) (.string t304)) (fun _ hk => hk.2) (.slice Ao56 t305.length co56)) (fun _ hk => hk.2) (.int .i64 t308)) (fun _ hk => hk.2) (.int .u64 t309)) (fun _ hk => hk.2) (.string t310)) (fun _ hk => hk.2) (.slice Ao57 t311.length co57)) (fun _ hk => ⟨hk.1.1.2.1, ⟨hk.1.1.2.2.1, ⟨hk.1.1.2.2.2.1, ⟨hk.1.1.2.2.2.2.1, ⟨hk.1.1.2.2.2.2.2.1, ⟨hk.1.1.1, ⟨hk.1.1.2.2.2.2.2.2, hk.1.2⟩⟩⟩⟩⟩⟩⟩)⟩; have n7_ : Aside0 (Kd.V k26 26 (((((((((((w52.setCell ⟨gb315, 0, none⟩ (.int .u64 t297)).setCell ⟨gb315, 1, none⟩ (.int .u64 t298)).setCell ⟨gb315, 2, none⟩ (.slice Ao55 t299.length co55)).setCell ⟨gb315, 3, none⟩ (.int .i64 t302)).setCell ⟨gb315, 4, none⟩ (.int .u64 t303)).setCell ⟨gb315, 5, none⟩ (.string t304)).setCell ⟨gb315, 6, none⟩ (.slice Ao56 t305.length co56)).setCell ⟨gb315, 7, none⟩ (.int .i64 t308)).setCell ⟨gb315, 8, none⟩ (.int .u64 t309)).setCell ⟨gb315, 9, none⟩ (.string t310)).setCell ⟨gb315, 10, none⟩ (.slice Ao57 t311.length co57)) w.heap.size (fun k_ => some k_ ≠ (.slice Ao41 t267.length co41 : Value).ownBlock ∧ some k_ ≠ (.slice Ao42 t273.length co42 : Value).ownBlock ∧ some k_ ≠ (.slice Ao43 t279.length co43 : Value).ownBlock ∧ some k_ ≠ (.slice (some ⟨go34, 0, none⟩) t282.length co45 : Value).ownBlock ∧ some k_ ≠ (.slice Ao50 y294.length co50 : Value).ownBlock ∧ some k_ ≠ (.slice Ao55 t299.length co55 : Value).ownBlock ∧ k_ ≠ gb261 ∧ k_ ≠ gb315) (.slice Ao57 t311.length co57) t311) := ⟨by (with_reducible repeat (first | apply Kd.V_alloc | apply Kd.V_drewN | apply Kd.V_drew)); exact Kd.V_mono (Kd.V_far (p := ⟨gb315, 10, none⟩) (Kd.V_far (p := ⟨gb315, 9, none⟩) (Kd.V_far (p := ⟨gb315, 8, none⟩) (Kd.V_far (p := ⟨gb315, 7, none⟩) (Kd.V_far (p := ⟨gb315, 6, none⟩) (Kd.V_far (p := ⟨gb315, 5, none⟩) (Kd.V_far (p := ⟨gb315, 4, none⟩) (Kd.V_far (p := ⟨gb315, 3, none⟩) (Kd.V_far (p := ⟨gb315, 2, none⟩) (Kd.V_far (p := ⟨gb315, 1, none⟩) (Kd.V_far (p := ⟨gb315, 0, none⟩) (Kd.V_mono HO313.out (fun k_ hk => (⟨hk, hk.2⟩ : _ ∧ k_ ≠ gb315))) (fun _ hk => hk.2) (.int .u64 t297)) (fun _ hk => hk.2) (.int .u64 t298)) (fun _ hk => hk.2) (.slice Ao55 t299.length co55)) (fun _ hk => hk.2) (.int .i64 t302)) (fun _ hk => hk.2) (.int .u64 t303)) (fun _ hk => hk.2) (.string t304)) (fun _ hk => hk.2) (.slice Ao56 t305.length co56)) (fun _ hk => hk.2) (.int .i64 t308)) (fun _ hk => hk.2) (.int .u64 t309)) (fun _ hk => hk.2) (.string t310)) (fun _ hk => hk.2) (.slice Ao57 t311.length co57)) (fun _ hk => ⟨hk.1.1.2.1, ⟨hk.1.1.2.2.1, ⟨hk.1.1.2.2.2.1, ⟨hk.1.1.2.2.2.2.1, ⟨hk.1.1.2.2.2.2.2.1, ⟨hk.1.1.1, ⟨hk.1.1.2.2.2.2.2.2, hk.1.2⟩⟩⟩⟩⟩⟩⟩)⟩; have n8_ : Aside0 ((((((((((((w52.setCell ⟨gb315, 0, none⟩ (.int .u64 t297)).setCell ⟨gb315, 1, none⟩ (.int .u64 t298)).setCell ⟨gb315, 2, none⟩ (.slice Ao55 t299.length co55)).setCell ⟨gb315, 3, none⟩ (.int .i64 t302)).setCell ⟨gb315, 4, none⟩ (.int .u64 t303)).setCell ⟨gb315, 5, none⟩ (.string t304)).setCell ⟨gb315, 6, none⟩ (.slice Ao56 t305.length co56)).setCell ⟨gb315, 7, none⟩ (.int .i64 t308)).setCell ⟨gb315, 8, none⟩ (.int .u64 t309)).setCell ⟨gb315, 9, none⟩ (.string t310)).setCell ⟨gb315, 10, none⟩ (.slice Ao57 t311.length co57)).heap[gb261]? = some (.cells #[.int .u64 a0_0, .int .u64 a0_1, .slice A0_2 l0_2.length c0_2, .int .i64 a0_3, .int .u64 a0_4, .string a0_5, .slice A0_6 l0_6.length c0_6, .int .i64 a0_7, .int .u64 a0_8, .string a0_9, .slice A0_10 l0_10.length c0_10] 28 (0, 0))) := ⟨by (with_reducible repeat (first | refine blk_drewN ?_ _ | refine blk_drew ?_ | refine blk_alloc ?_ _)); refine blk_far ?_ NB261_315.out _; (with_reducible repeat (first | refine blk_drewN ?_ _ | refine blk_drew ?_ | refine blk_alloc ?_ _)); refine blk_far ?_ NB261_315.out _; (with_reducible repeat (first | refine blk_drewN ?_ _ | refine blk_drew ?_ | refine blk_alloc ?_ _)); refine blk_far ?_ NB261_315.out _; (with_reducible repeat (first | refine blk_drewN ?_ _ | refine blk_drew ?_ | refine blk_alloc ?_ _)); refine blk_far ?_ NB261_315.out _; (with_reducible repeat (first | refine blk_drewN ?_ _ | refine blk_drew ?_ | refine blk_alloc ?_ _)); refine blk_far ?_ NB261_315.out _; (with_reducible repeat (first | refine blk_drewN ?_ _ | refine blk_drew ?_ | refine blk_alloc ?_ _)); refine blk_far ?_ NB261_315.out _; (with_reducible repeat (first | refine blk_drewN ?_ _ | refine blk_drew ?_ | refine blk_alloc ?_ _)); refine blk_far ?_ NB261_315.out _; (with_reducible repeat (first | refine blk_drewN ?_ _ | refine blk_drew ?_ | refine blk_alloc ?_ _)); refine blk_far ?_ NB261_315.out _; (with_reducible repeat (first | refine blk_drewN ?_ _ | refine blk_drew ?_ | refine blk_alloc ?_ _)); refine blk_far ?_ NB261_315.out _; (with_reducible repeat (first | refine blk_drewN ?_ _ | refine blk_drew ?_ | refine blk_alloc ?_ _)); refine blk_far ?_ NB261_315.out _; (with_reducible repeat (first | refine blk_drewN ?_ _ | refine blk_drew ?_ | refine blk_alloc ?_ _)); refine blk_far ?_ NB261_315.out _; (with_reducible repeat (first | refine blk_drewN ?_ _ | refine blk_drew ?_ | refine blk_alloc ?_ _)); exact BK261.out⟩; have n9_ : Aside0 ((((((((((((w52.setCell ⟨gb315, 0, none⟩ (.int .u64 t297)).setCell ⟨gb315, 1, none⟩ (.int .u64 t298)).setCell ⟨gb315, 2, none⟩ (.slice Ao55 t299.length co55)).setCell ⟨gb315, 3, none⟩ (.int .i64 t302)).setCell ⟨gb315, 4, none⟩ (.int .u64 t303)).setCell ⟨gb315, 5, none⟩ (.string t304)).setCell ⟨gb315, 6, none⟩ (.slice Ao56 t305.length co56)).setCell ⟨gb315, 7, none⟩ (.int .i64 t308)).setCell ⟨gb315, 8, none⟩ (.int .u64 t309)).setCell ⟨gb315, 9, none⟩ (.string t310)).setCell ⟨gb315, 10, none⟩ (.slice Ao57 t311.length co57)).heap[gb315]? = some (.cells #[.int .u64 t297, .int .u64 t298, .slice Ao55 t299.length co55, .int .i64 t302, .int .u64 t303, .string t304, .slice Ao56 t305.length co56, .int .i64 t308, .int .u64 t309, .string t310, .slice Ao57 t311.length co57] 28 (0, 0))) := ⟨by (with_reducible repeat (first | refine blk_drewN ?_ _ | refine blk_drew ?_ | refine blk_alloc ?_ _)); refine blk_put (cs := #[.int .u64 t297, .int .u64 t298, .slice Ao55 t299.length co55, .int .i64 t302, .int .u64 t303, .string t304, .slice Ao56 t305.length co56, .int .i64 t308, .int .u64 t309, .string t310, .slice none 0 0]) ?_ 10 _ rfl; (with_reducible repeat (first | refine blk_drewN ?_ _ | refine blk_drew ?_ | refine blk_alloc ?_ _)); refine blk_put (cs := #[.int .u64 t297, .int .u64 t298, .slice Ao55 t299.length co55, .int .i64 t302, .int .u64 t303, .string t304, .slice Ao56 t305.length co56, .int .i64 t308, .int .u64 t309, .string (⟨#[]⟩ : ByteArray), .slice none 0 0]) ?_ 9 _ rfl; (with_reducible repeat (first | refine blk_drewN ?_ _ | refine blk_drew ?_ | refine blk_alloc ?_ _)); refine blk_put (cs := #[.int .u64 t297, .int .u64 t298, .slice Ao55 t299.length co55, .int .i64 t302, .int .u64 t303, .string t304, .slice Ao56 t305.length co56, .int .i64 t308, .int .u64 0, .string (⟨#[]⟩ : ByteArray), .slice none 0 0]) ?_ 8 _ rfl; (with_reducible repeat (first | refine blk_drewN ?_ _ | refine blk_drew ?_ | refine blk_alloc ?_ _)); refine blk_put (cs := #[.int .u64 t297, .int .u64 t298, .slice Ao55 t299.length co55, .int .i64 t302, .int .u64 t303, .string t304, .slice Ao56 t305.length co56, .int .i64 0, .int .u64 0, .string (⟨#[]⟩ : ByteArray), .slice none 0 0]) ?_ 7 _ rfl; (with_reducible repeat (first | refine blk_drewN ?_ _ | refine blk_drew ?_ | refine blk_alloc ?_ _)); refine blk_put (cs := #[.int .u64 t297, .int .u64 t298, .slice Ao55 t299.length co55, .int .i64 t302, .int .u64 t303, .string t304, .slice none 0 0, .int .i64 0, .int .u64 0, .string (⟨#[]⟩ : ByteArray), .slice none 0 0]) ?_ 6 _ rfl; (with_reducible repeat (first | refine blk_drewN ?_ _ | refine blk_drew ?_ | refine blk_alloc ?_ _)); refine blk_put (cs := #[.int .u64 t297, .int .u64 t298, .slice Ao55 t299.length co55, .int .i64 t302, .int .u64 t303, .string (⟨#[]⟩ : ByteArray), .slice none 0 0, .int .i64 0, .int .u64 0, .string (⟨#[]⟩ : ByteArray), .slice none 0 0]) ?_ 5 _ rfl; (with_reducible repeat (first | refine blk_drewN ?_ _ | refine blk_drew ?_ | refine blk_alloc ?_ _)); refine blk_put (cs := #[.int .u64 t297, .int .u64 t298, .slice Ao55 t299.length co55, .int .i64 t302, .int .u64 0, .string (⟨#[]⟩ : ByteArray), .slice none 0 0, .int .i64 0, .int .u64 0, .string (⟨#[]⟩ : ByteArray), .slice none 0 0]) ?_ 4 _ rfl; (with_reducible repeat (first | refine blk_drewN ?_ _ | refine blk_drew ?_ | refine blk_alloc ?_ _)); refine blk_put (cs := #[.int .u64 t297, .int .u64 t298, .slice Ao55 t299.length co55, .int .i64 0, .int .u64 0, .string (⟨#[]⟩ : ByteArray), .slice none 0 0, .int .i64 0, .int .u64 0, .string (⟨#[]⟩ : ByteArray), .slice none 0 0]) ?_ 3 _ rfl; (with_reducible repeat (first | refine blk_drewN ?_ _ | refine blk_drew ?_ | refine blk_alloc ?_ _)); refine blk_put (cs := #[.int .u64 t297, .int .u64 t298, .slice none 0 0, .int .i64 0, .int .u64 0, .string (⟨#[]⟩ : ByteArray), .slice none 0 0, .int .i64 0, .int .u64 0, .string (⟨#[]⟩ : ByteArray), .slice none 0 0]) ?_ 2 _ rfl; (with_reducible repeat (first | refine blk_drewN ?_ _ | refine blk_drew ?_ | refine blk_alloc ?_ _)); refine blk_put (cs := #[.int .u64 t297, .int .u64 0, .slice none 0 0, .int .i64 0, .int .u64 0, .string (⟨#[]⟩ : ByteArray), .slice none 0 0, .int .i64 0, .int .u64 0, .string (⟨#[]⟩ : ByteArray), .slice none 0 0]) ?_ 1 _ rfl; (with_reducible repeat (first | refine blk_drewN ?_ _ | refine blk_drew ?_ | refine blk_alloc ?_ _)); refine blk_put (cs := #[.int .u64 0, .int .u64 0, .slice none 0 0, .int .i64 0, .int .u64 0, .string (⟨#[]⟩ : ByteArray), .slice none 0 0, .int .i64 0, .int .u64 0, .string (⟨#[]⟩ : ByteArray), .slice none 0 0]) ?_ 0 _ rfl; (with_reducible repeat (first | refine blk_drewN ?_ _ | refine blk_drew ?_ | refine blk_alloc ?_ _)); exact BK315.out⟩; have n10_ : Aside0 (Below w.heap.size w (((((((((((w52.setCell ⟨gb315, 0, none⟩ (.int .u64 t297)).setCell ⟨gb315, 1, none⟩ (.int .u64 t298)).setCell ⟨gb315, 2, none⟩ (.slice Ao55 t299.length co55)).setCell ⟨gb315, 3, none⟩ (.int .i64 t302)).setCell ⟨gb315, 4, none⟩ (.int .u64 t303)).setCell ⟨gb315, 5, none⟩ (.string t304)).setCell ⟨gb315, 6, none⟩ (.slice Ao56 t305.length co56)).setCell ⟨gb315, 7, none⟩ (.int .i64 t308)).setCell ⟨gb315, 8, none⟩ (.int .u64 t309)).setCell ⟨gb315, 9, none⟩ (.string t310)).setCell ⟨gb315, 10, none⟩ (.slice Ao57 t311.length co57))) := ⟨pB⟩; (try clear HO269); (try clear HO275); (try clear HO281); (try clear HO284); (try clear HO296); (try clear HO301); (try clear HO307); (try clear HO313); (try clear BK261); (try clear BK315); (try clear HB); generalize (((((((((((w52.setCell ⟨gb315, 0, none⟩ (.int .u64 t297)).setCell ⟨gb315, 1, none⟩ (.int .u64 t298)).setCell ⟨gb315, 2, none⟩ (.slice Ao55 t299.length co55)).setCell ⟨gb315, 3, none⟩ (.int .i64 t302)).setCell ⟨gb315, 4, none⟩ (.int .u64 t303)).setCell ⟨gb315, 5, none⟩ (.string t304)).setCell ⟨gb315, 6, none⟩ (.slice Ao56 t305.length co56)).setCell ⟨gb315, 7, none⟩ (.int .i64 t308)).setCell ⟨gb315, 8, none⟩ (.int .u64 t309)).setCell ⟨gb315, 9, none⟩ (.string t310)).setCell ⟨gb315, 10, none⟩ (.slice Ao57 t311.length co57)) = w60 at n0_ n1_ n2_ n3_ n4_ n5_ n6_ n7_ n8_ n9_ n10_ ⊢; have HO269 := n0_; have HO275 := n1_; have HO281 := n2_; have HO284 := n3_; have HO296 := n4_; have HO301 := n5_; have HO307 := n6_; have HO313 := n7_; have BK261 := n8_; have BK315 := n9_; have HB := n10_; clear n0_ n1_ n2_ n3_ n4_ n5_ n6_ n7_ n8_ n9_ n10_; obtain ⟨hy58_, hz58_⟩ := Kd.R_celln 0 HO284.out ((ji28) : Int) pD pD; have HP58 := Kd.R_putg HO284.out ((ji28) : Int) (Go.bits .xor .u8 (rd t282 (ji28)) (ji33)); refine store_event (t := 5) (p := 66) (v := ?vo_w59) (w1 := (w60.setCell ⟨go34, ((ji28) : Int).toNat, none⟩ (.int .u8 (Go.bits .xor .u8 (rd t282 (ji28)) (ji33))))) ?hg ?ho ?hn ?hr ?_; (case ho => rfl); (case hg => rfl); (case hn => rfl); (case hr => first | (go_simp; done) | (go_simp; rfl)); intro w59 hw; have hg : w60.grownBy w59 (some go34) := (by rw [hw]; exact HP58.2); have hp_ : Kd.R (Kd.int .u8) 5 w59 w.heap.size (fun k_ => some k_ ≠ (.slice Ao50 y294.length co50 : Value).ownBlock) (.slice (some ⟨go34, 0, none⟩) t282.length co45) y317 := (by rw [hw, Ny317.out]; exact HP58.1); clear HP58; have n0_ := Aside0.mk (blk_grown (g := gb261) (o := .cells #[.int .u64 a0_0, .int .u64 a0_1, .slice A0_2 l0_2.length c0_2, .int .i64 a0_3, .int .u64 a0_4, .string a0_5, .slice A0_6 l0_6.length c0_6, .int .i64 a0_7, .int .u64 a0_8, .string a0_9, .slice A0_10 l0_10.length c0_10] 28 (0, 0)) (pK BK261.out) hg (pX HO284.out BK261.out)); have n1_ := Aside0.mk (Kd.R_over' (v := (.slice (some ⟨go34, 0, none⟩) t282.length co45)) (pR HO269.out) (Kd.R_typed HO284.out) (by decide) hg); have n2_ := Aside0.mk (Kd.R_over' (v := (.slice (some ⟨go34, 0, none⟩) t282.length co45)) (pR HO275.out) (Kd.R_typed HO284.out) (by decide) hg); have n3_ := Aside0.mk (Kd.R_over' (v := (.slice (some ⟨go34, 0, none⟩) t282.length co45)) (pR HO281.out) (Kd.R_typed HO284.out) (by decide) hg); have n4_ := Aside0.mk (hp_); have n5_ := Aside0.mk (Kd.R_after (v := (.slice (some ⟨go34, 0, none⟩) t282.length co45)) (v1 := (.slice (some ⟨go34, 0, none⟩) t282.length co45)) (ok := (fun _ => True)) (by (with_reducible repeat (first | apply Kd.R_alloc | apply Kd.R_drewN | apply Kd.R_drew)); exact Kd.R_mono HO296.out (fun _ hk => ⟨trivial, hk⟩)) hg (.inl rfl)); have n6_ := Aside0.mk (Kd.R_over' (v := (.slice (some ⟨go34, 0, none⟩) t282.length co45)) (pR HO301.out) (Kd.R_typed HO284.out) (by decide) hg); have n7_ := Aside0.mk (Kd.V_afterv (v := (.slice (some ⟨go34, 0, none⟩) t282.length co45)) (v1 := (.slice (some ⟨go34, 0, none⟩) t282.length co45)) (ok := (fun k_ => some k_ ≠ (.slice Ao41 t267.length co41 : Value).ownBlock ∧ some k_ ≠ (.slice Ao42 t273.length co42 : Value).ownBlock ∧ some k_ ≠ (.slice Ao43 t279.length co43 : Value).ownBlock ∧ some k_ ≠ (.slice Ao50 y294.length co50 : Value).ownBlock ∧ some k_ ≠ (.slice Ao55 t299.length co55 : Value).ownBlock ∧ k_ ≠ gb261 ∧ k_ ≠ gb315)) (by (with_reducible repeat (first | apply Kd.V_alloc | apply Kd.V_drewN | apply Kd.V_drew)); exact Kd.V_mono HO307.out (fun _ hk => ⟨⟨hk.1, ⟨hk.2.1, ⟨hk.2.2.1, ⟨hk.2.2.2.2.1, ⟨hk.2.2.2.2.2.1, ⟨hk.2.2.2.2.2.2.1, hk.2.2.2.2.2.2.2⟩⟩⟩⟩⟩⟩, hk.2.2.2.1⟩)) hg (.inl rfl)); have n8_ := Aside0.mk (Kd.V_afterv (v := (.slice (some ⟨go34, 0, none⟩) t282.length co45)) (v1 := (.slice (some ⟨go34, 0, none⟩) t282.length co45)) (ok := (fun k_ => some k_ ≠ (.slice Ao41 t267.length co41 : Value).ownBlock ∧ some k_ ≠ (.slice Ao42 t273.length co42 : Value).ownBlock ∧ some k_ ≠ (.slice Ao43 t279.length co43 : Value).ownBlock ∧ some k_ ≠ (.slice Ao50 y294.length co50 : Value).ownBlock ∧ some k_ ≠ (.slice Ao55 t299.length co55 : Value).ownBlock ∧ k_ ≠ gb261 ∧ k_ ≠ gb315)) (by (with_reducible repeat (first | apply Kd.V_alloc | apply Kd.V_drewN | apply Kd.V_drew)); exact Kd.V_mono HO313.out (fun _ hk => ⟨⟨hk.1, ⟨hk.2.1, ⟨hk.2.2.1, ⟨hk.2.2.2.2.1, ⟨hk.2.2.2.2.2.1, ⟨hk.2.2.2.2.2.2.1, hk.2.2.2.2.2.2.2⟩⟩⟩⟩⟩⟩, hk.2.2.2.1⟩)) hg (.inl rfl)); have n9_ := Aside0.mk (blk_grown (g := gb315) (o := .cells #[.int .u64 t297, .int .u64 t298, .slice Ao55 t299.length co55, .int .i64 t302, .int .u64 t303, .string t304, .slice Ao56 t305.length co56, .int .i64 t308, .int .u64 t309, .string t310, .slice Ao57 t311.length co57] 28 (0, 0)) (pK BK315.out) hg (pX HO284.out BK315.out)); have n10_ := Aside0.mk ((by rw [hw]; exact below_set (HB.out) GB34.out : Below w.heap.size w w59)); clear BK261; clear HO269; clear HO275; clear HO281; clear HO284; clear HO296; clear HO301; clear HO307; clear HO313; clear BK315; clear HB; have BK261 := n0_; have HO269 := n1_; have HO275 := n2_; have HO281 := n3_; have HO284 := n4_; have HO296 := n5_; have HO301 := n6_; have HO307 := n7_; have HO313 := n8_; have BK315 := n9_; have HB := n10_; clear n0_ n1_ n2_ n3_ n4_ n5_ n6_ n7_ n8_ n9_ n10_; clear hg hw hp_) | ((with_reducible refine gate_callee (f := 14) rfl ?_); refine goesL_ (some 69) rfl rfl Tryd.func14 (by kernel_rfl) rfl #[.slice (some ⟨go34, 0, none⟩) y317.length co45] rfl (by (try simp only [List.map_toArray, List.map_cons, List.map_nil]); first | done | (rw [show y317.length = t282.length from (Kd.R_reads' HO284.out).1.symm] <;> rfl) | rfl | (simp only [List.length_drop, List.length_take]; rfl)) ?_; (with_reducible refine (snap_Load.calls kj2 _ _ y317 t318 t319 t320 t323 t324 t325 t326 t329 t330 t331 t332 t335 _ ?side1 ?side2 ?side3 A35.out).mono ?_); (case side1 => repeat (first | exact (Kd.R_reads' HO284.out).2.2 | (with_reducible refine Kd.C_alloc ?_ _) | (with_reducible refine Kd.C_drewN ?_ _) | (with_reducible refine Kd.C_drew ?_))); (case side2 => rw [show y317.length = t282.length from (Kd.R_reads' HO284.out).1.symm]; exact (Kd.R_reads' HO284.out).2.1); (case side3 => exact pG); rintro e w61 ⟨v321, v327, v333, rfl, ho0, ho1, ho2, hb⟩; refine ⟨_, rfl, ?_⟩; have n0_ := Aside0.mk (Kd.R_elder' (pR HO269.out) (Kd.R_base ho0) hb); have n1_ := Aside0.mk (Kd.R_below (pR HO275.out) hb); have n2_ := Aside0.mk (Kd.R_below (pR HO281.out) hb); have n3_ := Aside0.mk (Kd.R_below (pR HO284.out) hb); have n4_ := Aside0.mk (Kd.R_below (pR HO296.out) hb); have n5_ := Aside0.mk (Kd.R_elder' (pR HO301.out) (Kd.R_base ho0) hb); have n6_ := Aside0.mk (Kd.V_elder' (pV HO307.out) (Kd.R_base ho0) hb); have n7_ := Aside0.mk (Kd.V_elder' (pV HO313.out) (Kd.R_base ho0) hb); have n8_ := Aside0.mk (Kd.R_lower (Kd.R_new' (Kd.R_new' (Kd.R_mono (ok' := fun k_ => True) ho0 (fun _ hk_ => trivial)) (Kd.R_lt (pR HO269.out))) (Kd.R_lt (pR HO301.out))) (below_size pB)); have n9_ := Aside0.mk (Kd.V_lower (Kd.V_mono (ok' := fun k_ => some k_ ≠ (v321 : Value).ownBlock ∧ some k_ ≠ (.slice Ao41 t267.length co41 : Value).ownBlock ∧ some k_ ≠ (.slice Ao42 t273.length co42 : Value).ownBlock ∧ some k_ ≠ (.slice Ao43 t279.length co43 : Value).ownBlock ∧ some k_ ≠ (.slice (some ⟨go34, 0, none⟩) t282.length co45 : Value).ownBlock ∧ some k_ ≠ (.slice Ao50 y294.length co50 : Value).ownBlock ∧ some k_ ≠ (.slice Ao55 t299.length co55 : Value).ownBlock ∧ k_ ≠ gb261 ∧ k_ ≠ gb315) ho1 (fun k_ hk_ => ⟨hk_.2, (Kd.fresh' (Kd.R_lt (pR HO269.out)) k_ hk_.1), (Kd.fresh' (Kd.R_lt (pR HO275.out)) k_ hk_.1), (Kd.fresh' (Kd.R_lt (pR HO281.out)) k_ hk_.1), (Kd.fresh' (Kd.R_lt (pR HO284.out)) k_ hk_.1), (Kd.fresh' (Kd.R_lt (pR HO296.out)) k_ hk_.1), (Kd.fresh' (Kd.R_lt (pR HO301.out)) k_ hk_.1), (Kd.freshB (g := gb261) (o := .cells #[.int .u64 a0_0, .int .u64 a0_1, .slice A0_2 l0_2.length c0_2, .int .i64 a0_3, .int .u64 a0_4, .string a0_5, .slice A0_6 l0_6.length c0_6, .int .i64 a0_7, .int .u64 a0_8, .string a0_9, .slice A0_10 l0_10.length c0_10] 28 (0, 0)) (pK BK261.out) k_ hk_.1), (Kd.freshB (g := gb315) (o := .cells #[.int .u64 t297, .int .u64 t298, .slice Ao55 t299.length co55, .int .i64 t302, .int .u64 t303, .string t304, .slice Ao56 t305.length co56, .int .i64 t308, .int .u64 t309, .string t310, .slice Ao57 t311.length co57] 28 (0, 0)) (pK BK315.out) k_ hk_.1)⟩)) (below_size pB)); have n10_ := Aside0.mk (Kd.V_lower (Kd.V_mono (ok' := fun k_ => some k_ ≠ (v321 : Value).ownBlock ∧ some k_ ≠ (.slice Ao41 t267.length co41 : Value).ownBlock ∧ some k_ ≠ (.slice Ao42 t273.length co42 : Value).ownBlock ∧ some k_ ≠ (.slice Ao43 t279.length co43 : Value).ownBlock ∧ some k_ ≠ (.slice (some ⟨go34, 0, none⟩) t282.length co45 : Value).ownBlock ∧ some k_ ≠ (.slice Ao50 y294.length co50 : Value).ownBlock ∧ some k_ ≠ (.slice Ao55 t299.length co55 : Value).ownBlock ∧ k_ ≠ gb261 ∧ k_ ≠ gb315) ho2 (fun k_ hk_ => ⟨hk_.2, (Kd.fresh' (Kd.R_lt (pR HO269.out)) k_ hk_.1), (Kd.fresh' (Kd.R_lt (pR HO275.out)) k_ hk_.1), (Kd.fresh' (Kd.R_lt (pR HO281.out)) k_ hk_.1), (Kd.fresh' (Kd.R_lt (pR HO284.out)) k_ hk_.1), (Kd.fresh' (Kd.R_lt (pR HO296.out)) k_ hk_.1), (Kd.fresh' (Kd.R_lt (pR HO301.out)) k_ hk_.1), (Kd.freshB (g := gb261) (o := .cells #[.int .u64 a0_0, .int .u64 a0_1, .slice A0_2 l0_2.length c0_2, .int .i64 a0_3, .int .u64 a0_4, .string a0_5, .slice A0_6 l0_6.length c0_6, .int .i64 a0_7, .int .u64 a0_8, .string a0_9, .slice A0_10 l0_10.length c0_10] 28 (0, 0)) (pK BK261.out) k_ hk_.1), (Kd.freshB (g := gb315) (o := .cells #[.int .u64 t297, .int .u64 t298, .slice Ao55 t299.length co55, .int .i64 t302, .int .u64 t303, .string t304, .slice Ao56 t305.length co56, .int .i64 t308, .int .u64 t309, .string t310, .slice Ao57 t311.length co57] 28 (0, 0)) (pK BK315.out) k_ hk_.1)⟩)) (below_size pB)); have n11_ := Aside0.mk (pkb BK261.out hb); have n12_ := Aside0.mk (pkb BK315.out hb); have n13_ := Aside0.mk (below_step pB hb); clear HO269; clear HO275; clear HO281; clear HO284; clear HO296; clear HO301; clear HO307; clear HO313; clear BK261; clear BK315; clear HB; have HO269 := n0_; have HO275 := n1_; have HO281 := n2_; have HO284 := n3_; have HO296 := n4_; have HO301 := n5_; have HO307 := n6_; have HO313 := n7_; have HO322 := n8_; have HO328 := n9_; have HO334 := n10_; have BK261 := n11_; have BK315 := n12_; have HB := n13_; clear n0_ n1_ n2_ n3_ n4_ n5_ n6_ n7_ n8_ n9_ n10_ n11_ n12_ n13_; (try clear hb); (try clear hb2); (try clear hk); (try clear hi); (try clear ho0); (try clear ho1); (try clear ho2)) | ((with_reducible refine gate_dst (N := 10) rfl ?_); refine box_event ?hg (N := 10) ?hd (cs := #[.int .u64 0, .int .u64 0, .slice none 0 0, .int .i64 0, .int .u64 0, .string (⟨#[]⟩ : ByteArray), .slice none 0 0, .int .i64 0, .int .u64 0, .string (⟨#[]⟩ : ByteArray), .slice none 0 0]) (t := 28) ?hr ?_; (case hd => rfl); (case hg => rfl); (case hr => first | (go_simp; done) | (go_simp; rfl)); intro gb336 hg w62 hbox hb; have n0_ := Aside0.mk (Kd.R_below (pR HO269.out) hb); have n1_ := Aside0.mk (Kd.R_below (pR HO275.out) hb); have n2_ := Aside0.mk (Kd.R_below (pR HO281.out) hb); have n3_ := Aside0.mk (Kd.R_below (pR HO284.out) hb); have n4_ := Aside0.mk (Kd.R_below (pR HO296.out) hb); have n5_ := Aside0.mk (Kd.R_below (pR HO301.out) hb); have n6_ := Aside0.mk (Kd.V_below (Kd.V_elderB (pV HO307.out) gb336 (Nat.le_of_eq hg.symm)) hb); have n7_ := Aside0.mk (Kd.V_below (Kd.V_elderB (pV HO313.out) gb336 (Nat.le_of_eq hg.symm)) hb); have n8_ := Aside0.mk (Kd.R_below (pR HO322.out) hb); have n9_ := Aside0.mk (Kd.V_below (Kd.V_elderB (pV HO328.out) gb336 (Nat.le_of_eq hg.symm)) hb); have n10_ := Aside0.mk (Kd.V_below (Kd.V_elderB (pV HO334.out) gb336 (Nat.le_of_eq hg.symm)) hb); have n11_ := Aside0.mk (pkb BK261.out hb); have n12_ := Aside0.mk (pkb BK315.out hb); have n13_ := Aside0.mk (below_step pB hb); have n14_ := Aside0.mk (hbox); have n15_ := Aside0.mk ((by rw [hg]; exact (below_size pB) : w.heap.size ≤ gb336)); have n16_ := Aside0.mk ((by rw [hg]; exact (below_size pB) : w.heap.size ≤ gb336)); have n17_ := Aside0.mk ((by rw [hg]; exact Nat.ne_of_lt (pkl BK261.out) : gb261 ≠ gb336)); have n18_ := Aside0.mk ((by rw [hg]; exact Nat.ne_of_gt (pkl BK261.out) : gb336 ≠ gb261)); have n19_ := Aside0.mk ((by rw [hg]; exact Nat.ne_of_lt (pkl BK315.out) : gb315 ≠ gb336)); have n20_ := Aside0.mk ((by rw [hg]; exact Nat.ne_of_gt (pkl BK315.out) : gb336 ≠ gb315)); clear HO269; clear HO275; clear HO281; clear HO284; clear HO296; clear HO301; clear HO307; clear HO313; clear HO322; clear HO328; clear HO334; clear BK261; clear BK315; clear HB; have HO269 := n0_; have HO275 := n1_; have HO281 := n2_; have HO284 := n3_; have HO296 := n4_; have HO301 := n5_; have HO307 := n6_; have HO313 := n7_; have HO322 := n8_; have HO328 := n9_; have HO334 := n10_; have BK261 := n11_; have BK315 := n12_; have HB := n13_; have BK336 := n14_; have GW336 := n15_; have GE336 := n16_; have NB261_336 := n17_; have NB336_261 := n18_; have NB315_336 := n19_; have NB336_315 := n20_; clear n0_ n1_ n2_ n3_ n4_ n5_ n6_ n7_ n8_ n9_ n10_ n11_ n12_ n13_ n14_ n15_ n16_ n17_ n18_ n19_ n20_; clear hb hbox hg; have hnb63 := NB336_261.out; have hnc63 := NB261_336.out; have hnb64 := NB336_315.out; have hnc64 := NB315_336.out; obtain ⟨hcz65_0, hcz65_1, hcz65_2, hcz65_3, hcz65_4, hcz65_5, hcz65_6, hcz65_7, hcz65_8, hcz65_9, hcz65_10, hfz65_0, hfz65_1, hfz65_2, hfz65_3, hfz65_4, hfz65_5, hfz65_6, hfz65_7, hfz65_8, hfz65_9, hfz65_10⟩ := cf11 BK336.out; obtain ⟨Ao66, co66, eo66⟩ := Kd.R_slice HO322.out; subst eo66; obtain ⟨Ao67, co67, eo67⟩ := Kd.V_slice HO328.out; subst eo67; obtain ⟨Ao68, co68, eo68⟩ := Kd.V_slice HO334.out; subst eo68) | (go_at_call 8; (with_reducible refine (minstrellaw19_lives.calls kj2  t337 _ ?side1 A38.out).mono ?_); (case side1 => exact pG); rintro e w69 ⟨rfl, hb⟩; have n0_ := Aside0.mk (below_step pB hb); clear HB; have HB := n0_; clear n0_))
                go_ret
                exact ⟨by first | rfl | (simp [errW_none, errW_some] <;> rfl) | (simp only [← hji22, ← hji28, ← hji31, ← hji33]; first | rfl | (simp [errW_none, errW_some] <;> rfl)) | (simp [*, errW_none, errW_some] <;> rfl), pB⟩
               ·rw [if_neg c37] at H
                exact absurd H (by simp)
              ·rw [if_neg c36] at H
               exact absurd H (by simp)
             ·rw [if_neg c32] at H
              exact absurd H (by simp)
            ·rw [if_neg c30] at H
             exact absurd H (by simp)
           ·rw [if_neg c29] at H
            exact absurd H (by simp)
         ·rw [if_neg c25] at H
          exact absurd H (by simp)
        ·rw [if_neg c24] at H
         exact absurd H (by simp)
       ·rw [if_neg c23] at H
        exact absurd H (by simp)
    ·rw [if_neg c19] at H
     have c19b0 : (t285 == 0) = false := beq_eq_false_iff_ne.mpr c19
     have c19b1 : (t285 != 0) = true := bne_iff_ne.mpr c19
     replace H := Option.bind_eq_some_iff.mp H
     obtain ⟨t286, A700, H⟩ := H
     replace H : (some t286) = some r := H
     have A70 := Aside0.mk A700
     clear A700
     obtain rfl := Option.some.inj H
     obtain ⟨hcz71_0, hcz71_1, hcz71_2, hcz71_3, hcz71_4, hcz71_5, hcz71_6, hcz71_7, hcz71_8, hcz71_9, hcz71_10, hfz71_0, hfz71_1, hfz71_2, hfz71_3, hfz71_4, hfz71_5, hfz71_6, hfz71_7, hfz71_8, hfz71_9, hfz71_10⟩ := cf11 BK261.out
     go_wp2_with (first | ((with_reducible refine gate_callee (f := 10) rfl ?_); refine goesL_ (some 25) rfl rfl Tryd.func10 (by kernel_rfl) rfl #[.agg #[.int .u64 a0_0, .int .u64 a0_1, .slice A0_2 l0_2.length c0_2, .int .i64 a0_3, .int .u64 a0_4, .string a0_5, .slice A0_6 l0_6.length c0_6, .int .i64 a0_7, .int .u64 a0_8, .string a0_9, .slice A0_10 l0_10.length c0_10]] rfl pM ?_; (with_reducible refine (minstrellaw19_own.calls kj2 a0_0 a0_1 _ _ l0_2 a0_3 a0_4 a0_5 _ _ l0_6 a0_7 a0_8 a0_9 _ _ l0_10 t265 t266 t267 t270 t271 t272 t273 t276 t277 t278 t279 _ ?side1 ?side2 ?side3 ?side4 ?side5 ?side6 A17.out).mono ?_); (case side1 => exact pC (Kd.C_below HR0_2.out HB.out)); (case side2 => exact HC0_2.out); (case side3 => exact pC (Kd.C_below HR0_6.out HB.out)); (case side4 => exact HC0_6.out); (case side5 => exact pC (Kd.C_below HR0_10.out HB.out)); (case side6 => exact HC0_10.out); rintro e w72 ⟨v268, v274, v280, rfl, ho0, ho1, ho2, hb⟩; refine ⟨_, rfl, ?_⟩; have n0_ := Aside0.mk (Kd.R_lower ho0 (below_size pB)); have n1_ := Aside0.mk (Kd.R_lower ho1 (below_size pB)); have n2_ := Aside0.mk (Kd.R_lower ho2 (below_size pB)); have n3_ := Aside0.mk (pkb BK261.out hb); have n4_ := Aside0.mk (below_step pB hb); clear BK261; clear HB; have HO269 := n0_; have HO275 := n1_; have HO281 := n2_; have BK261 := n3_; have HB := n4_; clear n0_ n1_ n2_ n3_ n4_; (try clear hb); (try clear hb2); (try clear hk); (try clear hi); (try clear ho0); (try clear ho1); (try clear ho2); obtain ⟨Ao73, co73, eo73⟩ := Kd.R_slice HO269.out; subst eo73; obtain ⟨Ao74, co74, eo74⟩ := Kd.R_slice HO275.out; subst eo74; obtain ⟨Ao75, co75, eo75⟩ := Kd.R_slice HO281.out; subst eo75) | ((with_reducible refine gate_callee (f := 9) rfl ?_); refine goesL_ (some 26) rfl rfl Tryd.func9 (by kernel_rfl) rfl #[.agg #[.int .u64 t265, .int .u64 t266, .slice Ao73 t267.length co73, .int .i64 t270, .int .u64 t271, .string t272, .slice Ao74 t273.length co74, .int .i64 t276, .int .u64 t277, .string t278, .slice Ao75 t279.length co75]] rfl pM ?_; (with_reducible refine (snap_Save.calls kj2 t265 t266 _ _ t267 t270 t271 t272 (fun k_ => ((some k_ ≠ (.slice Ao75 t279.length co75 : Value).ownBlock ∧ some k_ ≠ (.slice Ao73 t267.length co73 : Value).ownBlock) ∧ k_ ≠ gb261)) _ _ t273 t276 t277 t278 (fun k_ => ((some k_ ≠ (.slice Ao74 t273.length co74 : Value).ownBlock ∧ some k_ ≠ (.slice Ao73 t267.length co73 : Value).ownBlock) ∧ k_ ≠ gb261)) _ _ t279 t282 t285 _ ?side1 ?side2 ?side3 ?side4 ?side5 A18.out).mono ?_); (case side1 => repeat (first | exact (Kd.R_reads' HO269.out).2.2 | (with_reducible refine Kd.C_alloc ?_ _) | (with_reducible refine Kd.C_drewN ?_ _) | (with_reducible refine Kd.C_drew ?_))); (case side2 => exact (Kd.R_reads' HO269.out).2.1); (case side3 => exact Kd.R_V (Kd.R_types (Kd.R_apart' (HO275.out) (Kd.R_typed HO269.out) (by decide)) BK261.out (by decide))); (case side4 => exact Kd.R_V (Kd.R_types (Kd.R_apart' (HO281.out) (Kd.R_typed HO269.out) (by decide)) BK261.out (by decide))); (case side5 => exact pG); rintro e w76 ⟨v283, rfl, ho0, hb⟩; refine ⟨_, rfl, ?_⟩; have n0_ := Aside0.mk (Kd.R_below (pR HO269.out) hb); have n1_ := Aside0.mk (Kd.R_below (pR HO275.out) hb); have n2_ := Aside0.mk (Kd.R_below (pR HO281.out) hb); have n3_ := Aside0.mk (Kd.R_lower (Kd.R_mono (ok' := fun k_ => True) ho0 (fun _ hk_ => trivial)) (below_size pB)); have n4_ := Aside0.mk (pkb BK261.out hb); have n5_ := Aside0.mk (below_step pB hb); clear HO269; clear HO275; clear HO281; clear BK261; clear HB; have HO269 := n0_; have HO275 := n1_; have HO281 := n2_; have HO284 := n3_; have BK261 := n4_; have HB := n5_; clear n0_ n1_ n2_ n3_ n4_ n5_; (try clear hb); (try clear hb2); (try clear hk); (try clear hi); (try clear ho0)) | ((with_reducible refine gate_callee (f := 8) rfl ?_); refine goesL_ (some 31) rfl rfl Tryd.func8 (by kernel_rfl) rfl #[] rfl pM ?_; (with_reducible refine (minstrellaw19_lives.calls kj2  t286 _ ?side1 A70.out).mono ?_); (case side1 => exact pG); rintro e w77 ⟨rfl, hb⟩; refine ⟨_, rfl, ?_⟩; have n0_ := Aside0.mk (Kd.R_below (pR HO269.out) hb); have n1_ := Aside0.mk (Kd.R_below (pR HO275.out) hb); have n2_ := Aside0.mk (Kd.R_below (pR HO281.out) hb); have n3_ := Aside0.mk (Kd.R_below (pR HO284.out) hb); have n4_ := Aside0.mk (pkb BK261.out hb); have n5_ := Aside0.mk (below_step pB hb); clear HO269; clear HO275; clear HO281; clear HO284; clear BK261; clear HB; have HO269 := n0_; have HO275 := n1_; have HO281 := n2_; have HO284 := n3_; have BK261 := n4_; have HB := n5_; clear n0_ n1_ n2_ n3_ n4_ n5_; (try clear hb); (try clear hb2); (try clear hk); (try clear hi)))
     go_ret
     exact ⟨pE, pB⟩
end Go.Proofs.YtlkaffbgekbcfaaDoor.Pr
end
section
namespace Go.Proofs.YtlkaffbgekbcfaaDoor.Pr
open Go.RowKit Go.Proofs.YtlkaffbgekbcfaaDoorW.PrintWords Go.Proofs.YtlkaffbgekbcfaaDoorW.PrintLast Go.Proofs.YtlkaffbgekbcfaaDoorW.PrintMore
set_option linter.unusedVariables false
set_option linter.unusedSimpArgs false
theorem rd_at (L : List S26) (j : Nat) (h : j < L.length) : rd_T26 L (j : Int) = L[j] := by
  unfold rd_T26
  rw [Int.toNat_natCast, List.getD_eq_getElem?_getD, List.getElem?_eq_getElem h]
  rfl
def allC {α : Type} (f : α → α → Option Bool) : List α → List α → Option Bool
  | x :: xs, y :: ys => (f x y).bind fun r => if r then allC f xs ys else some false
  | _, _ => some true
def sameC : Nat → S26 → S26 → Option Bool
  | 0, _, _ => none
  | k + 1, a, b =>
    if a.f0 = b.f0 then
      if a.f0 = 0 then some (a.f1 == b.f1)
      else if a.f0 = 1 then some (a.f2.toList == b.f2.toList)
      else if a.f0 = 2 then if a.f3.length = b.f3.length then allC (sameC k) a.f3 b.f3 else some false
      else some true
    else some false
end Go.Proofs.YtlkaffbgekbcfaaDoor.Pr
end
section
namespace Go.Proofs.YtlkaffbgekbcfaaDoor.Pure
open Go.RowKit Go.Proofs.YtlkaffbgekbcfaaDoor.Pr Go.Proofs.YtlkaffbgekbcfaaDoorW.PrintWords Go.Proofs.YtlkaffbgekbcfaaDoorW.PrintLast Go.Proofs.YtlkaffbgekbcfaaDoorW.PrintMore
set_option linter.unusedVariables false
set_option linter.unusedSimpArgs false
def Bts (bs : List Int) : Prop := ∀ x ∈ bs, 0 ≤ x ∧ x < 256
theorem Bts.nil : Bts [] := fun _ h => by cases h
theorem Bts.take {bs : List Int} (h : Bts bs) (n : Nat) : Bts (bs.take n) := fun x hx => h x (List.mem_of_mem_take hx)
theorem Bts.drop {bs : List Int} (h : Bts bs) (n : Nat) : Bts (bs.drop n) := fun x hx => h x (List.mem_of_mem_drop hx)
theorem Bts.tail {b : Int} {bs : List Int} (h : Bts (b :: bs)) : Bts bs := fun x hx => h x (List.mem_cons_of_mem _ hx)
theorem Bts.head {b : Int} {bs : List Int} (h : Bts (b :: bs)) : 0 ≤ b ∧ b < 256 := h b (List.mem_cons_self ..)
theorem Bts.append {a b : List Int} (h : Bts a) (k : Bts b) : Bts (a ++ b) := fun x hx => (List.mem_append.1 hx).elim (h x) (k x)
theorem Bts.cons {b : Int} {bs : List Int} (h : 0 ≤ b ∧ b < 256) (k : Bts bs) : Bts (b :: bs) := fun x hx => by
  rcases List.mem_cons.1 hx with rfl | hx
  · exact h
  · exact k x hx
theorem or_byte (n x : Int) (h0 : 0 ≤ n) (h1 : n < 72057594037927936) (h2 : 0 ≤ x) (h3 : x < 256) : Go.bits .or .u64 (IntKind.u64.wrap (n * 256)) (IntKind.u64.wrap x) = n * 256 + x := by
  rw [IntWalk.u64_in (n * 256) (by omega), IntWalk.u64_in x (by omega)]
  obtain ⟨a, rfl⟩ := Int.eq_ofNat_of_zero_le h0
  obtain ⟨b, rfl⟩ := Int.eq_ofNat_of_zero_le h2
  have h := bits_or_u64_nat (256 * a) b (by omega) (by omega)
  have e : (256 * a ||| b) = 256 * a + b := by
    have := Nat.two_pow_add_eq_or_of_lt (i := 8) (b := b) (by omega) a
    simpa using this.symm
  rw [e] at h
  have e1 : ((a : Int) * 256) = ((256 * a : Nat) : Int) := by omega
  have e2 : (((256 * a + b : Nat)) : Int) = (a : Int) * 256 + (b : Int) := by omega
  rw [← e2, e1]
  exact h
def beV : List Int → Int → Int
  | [], n => n
  | x :: xs, n => beV xs (n * 256 + x)
theorem numR_eq : ∀ (xs : List Int) (n : Int) (m : Nat), Bts xs → 0 ≤ n → n < 256 ^ m → m + xs.length ≤ 8 → numR xs n = beV xs n
  | [], n, m, hb, h0, h1, hm => rfl
  | x :: xs, n, m, hb, h0, h1, hm => by
    rw [List.length_cons] at hm
    have hx := hb.head
    have hn : n < 72057594037927936 := Int.lt_of_lt_of_le h1 (by
      have h7 : (256 : Nat) ^ m ≤ 256 ^ 7 := Nat.pow_le_pow_right (by decide) (show m ≤ 7 by omega)
      have h8 : ((256 ^ m : Nat) : Int) ≤ ((72057594037927936 : Nat) : Int) := Int.ofNat_le.2 h7
      rwa [Int.natCast_pow] at h8)
    simp only [numR, beV]
    rw [or_byte n x h0 hn hx.1 hx.2]
    refine numR_eq xs (n * 256 + x) (m + 1) hb.tail (by omega) ?_ (by omega)
    rw [Int.pow_succ]
    omega
theorem beV_bound : ∀ (xs : List Int) (n : Int) (m : Nat), Bts xs → 0 ≤ n → n < 256 ^ m → 0 ≤ beV xs n ∧ beV xs n < 256 ^ (m + xs.length)
  | [], n, m, hb, h0, h1 => ⟨h0, h1⟩
  | x :: xs, n, m, hb, h0, h1 => by
    have hx := hb.head
    have := beV_bound xs (n * 256 + x) (m + 1) hb.tail (by omega) (by rw [Int.pow_succ]; omega)
    rw [List.length_cons, show m + (xs.length + 1) = m + 1 + xs.length by omega]
    exact this
theorem be4 (a b c d : Int) (ha : 0 ≤ a ∧ a < 256) (hb : 0 ≤ b ∧ b < 256) (hc : 0 ≤ c ∧ c < 256) (hd : 0 ≤ d ∧ d < 256) : beB (beV [a, b, c, d] 0) 4 = [a, b, c, d] := by
  simp only [beB, beV, List.cons.injEq, and_true]
  refine ⟨?_, ?_, ?_, ?_⟩ <;> omega
theorem be8 (a b c d e f g h : Int) (ha : 0 ≤ a ∧ a < 256) (hb : 0 ≤ b ∧ b < 256) (hc : 0 ≤ c ∧ c < 256) (hd : 0 ≤ d ∧ d < 256) (he : 0 ≤ e ∧ e < 256) (hf : 0 ≤ f ∧ f < 256) (hg : 0 ≤ g ∧ g < 256) (hh : 0 ≤ h ∧ h < 256) : beB (beV [a, b, c, d, e, f, g, h] 0) 8 = [a, b, c, d, e, f, g, h] := by
  simp only [beB, beV, List.cons.injEq, and_true]
  refine ⟨?_, ?_, ?_, ?_, ?_, ?_, ?_, ?_⟩ <;> omega
theorem be4' (n : Int) (h0 : 0 ≤ n) (h1 : n < 4294967296) : beV (beB n 4) 0 = n := by
  simp only [beB, beV]
  omega
theorem be8' (n : Int) (h0 : 0 ≤ n) (h1 : n < 18446744073709551616) : beV (beB n 8) 0 = n := by
  simp only [beB, beV]
  omega
theorem beB_bts (n : Int) (h : 0 ≤ n) : ∀ m, Bts (beB n m)
  | 0 => Bts.nil
  | m + 1 => Bts.cons (by omega) (beB_bts n h m)
theorem take4 {bs : List Int} (h : Bts bs) (hl : 4 ≤ bs.length) : beB (beV (bs.take 4) 0) 4 = bs.take 4 ∧ 0 ≤ beV (bs.take 4) 0 ∧ beV (bs.take 4) 0 < 4294967296 ∧ numR (bs.take 4) 0 = beV (bs.take 4) 0 := by
  have hb := h.take 4
  have h1 := beV_bound (bs.take 4) 0 0 hb (by decide) (by decide)
  have h2 := numR_eq (bs.take 4) 0 0 hb (by decide) (by decide) (by rw [List.length_take]; omega)
  have hlen : (bs.take 4).length = 4 := by rw [List.length_take]; omega
  rw [hlen] at h1
  refine ⟨?_, h1.1, h1.2, h2⟩
  rcases bs with _ | ⟨a, _ | ⟨b, _ | ⟨c, _ | ⟨d, bs⟩⟩⟩⟩
  all_goals first | (simp at hl; done) | skip
  exact be4 a b c d (hb a (by simp)) (hb b (by simp)) (hb c (by simp)) (hb d (by simp))
theorem take8 {bs : List Int} (h : Bts bs) (hl : 8 ≤ bs.length) : beB (beV (bs.take 8) 0) 8 = bs.take 8 ∧ 0 ≤ beV (bs.take 8) 0 ∧ beV (bs.take 8) 0 < 18446744073709551616 ∧ numR (bs.take 8) 0 = beV (bs.take 8) 0 := by
  have hb := h.take 8
  have h1 := beV_bound (bs.take 8) 0 0 hb (by decide) (by decide)
  have h2 := numR_eq (bs.take 8) 0 0 hb (by decide) (by decide) (by rw [List.length_take]; omega)
  have hlen : (bs.take 8).length = 8 := by rw [List.length_take]; omega
  rw [hlen] at h1
  refine ⟨?_, h1.1, h1.2, h2⟩
  rcases bs with _ | ⟨a, _ | ⟨b, _ | ⟨c, _ | ⟨d, _ | ⟨e, _ | ⟨f, _ | ⟨g, _ | ⟨i, bs⟩⟩⟩⟩⟩⟩⟩⟩
  all_goals first | (simp at hl; done) | (simp at hl; omega) | skip
  exact be8 a b c d e f g i (hb a (by simp)) (hb b (by simp)) (hb c (by simp)) (hb d (by simp)) (hb e (by simp)) (hb f (by simp)) (hb g (by simp)) (hb i (by simp))
theorem wrap64_in (x : Int) (h0 : -9223372036854775808 ≤ x) (h1 : x ≤ 9223372036854775807) : wrap64 x = x := by unfold wrap64; omega
theorem strOfNums_bytesOf (s : ByteArray) : strOfNums (bytesOf s) = s := by
  unfold strOfNums bytesOf
  cases s with
  | mk d =>
    simp only [ByteArray.mk.injEq]
    apply Array.ext'
    simp only [List.map_map]
    apply List.ext_getElem
    · simp
    · intro i h1 h2
      simp
theorem bytesOf_bts (s : ByteArray) : Bts (bytesOf s) := fun x hx => by
  unfold bytesOf at hx
  obtain ⟨b, _, rfl⟩ := List.mem_map.1 hx
  have := b.toNat_lt
  omega
end Go.Proofs.YtlkaffbgekbcfaaDoor.Pure
end
section
namespace Go.Proofs.YtlkaffbgekbcfaaDoor.Pure
open Go.RowKit Go.Proofs.YtlkaffbgekbcfaaDoor.Pr Go.Proofs.YtlkaffbgekbcfaaDoorW.PrintWords Go.Proofs.YtlkaffbgekbcfaaDoorW.PrintLast Go.Proofs.YtlkaffbgekbcfaaDoorW.PrintMore
set_option linter.unusedVariables false
set_option linter.unusedSimpArgs false
end Go.Proofs.YtlkaffbgekbcfaaDoor.Pure
end
section
namespace Go.Proofs.YtlkaffbgekbcfaaDoor.Pr
open Go.RowKit Go.Proofs.YtlkaffbgekbcfaaDoorW.PrintWords Go.Proofs.YtlkaffbgekbcfaaDoorW.PrintLast Go.Proofs.YtlkaffbgekbcfaaDoorW.PrintMore
set_option linter.unusedVariables false
set_option linter.unusedSimpArgs false
set_option maxRecDepth 100000
def wfc : Nat → S26 → Prop
  | 0, _ => True
  | k + 1, c => (Lit.int .i64 c.f0).wf = true ∧ (Lit.int .u64 c.f1).wf = true ∧ c.f2.size ≤ maxLen ∧ c.f3.length ≤ maxLen ∧ ∀ x ∈ c.f3, wfc k x
def szc : Nat → S26 → Prop
  | 0, _ => True
  | k + 1, c => c.f2.size ≤ 140737488351232 ∧ ∀ x ∈ c.f3, szc k x
theorem weightsAll_mem {H : Type} {P : Program} {e : TypeId} : ∀ {l : List (DataW H)} {d : DataW H}, d ∈ l → ∀ n ∈ d.weights P e, n ∈ DataW.weightsAll P e l
  | [], d, hd, n, hn => by cases hd
  | x :: l, d, hd, n, hn => by
    rw [DataW.weightsAll]
    rcases List.mem_cons.1 hd with rfl | hd
    · exact List.mem_append_left _ hn
    · exact List.mem_append_right _ (weightsAll_mem hd n hn)
theorem list_of {α : Type} {Q : Nat → α → Prop} : ∀ (n : Nat), (∀ i, i < n → ∃ x, Q i x) → ∃ L : List α, L.length = n ∧ ∀ i x, L[i]? = some x → Q i x
  | 0, _ => ⟨[], rfl, fun i x h => by simp at h⟩
  | n + 1, h => by
    obtain ⟨L, hl, hL⟩ := list_of n (fun i hi => h i (by omega))
    obtain ⟨x, hx⟩ := h n (by omega)
    refine ⟨L ++ [x], by simp [hl], fun i y hy => ?_⟩
    rcases Nat.lt_or_ge i L.length with hlt | hge
    · rw [List.getElem?_append_left hlt] at hy
      exact hL i y hy
    · have hi := (List.getElem?_eq_some_iff.1 hy).1
      rw [List.length_append, List.length_singleton] at hi
      have : i = n := by omega
      subst this
      rw [List.getElem?_append_right (by omega), hl, Nat.sub_self] at hy
      have : x = y := by simpa using hy
      subst this
      exact hx
theorem open_cells {H : Type} {enc : TypeId × Value → H} {w : World} : ∀ (fuel : Nat) (cs : List Value) (x : DataW H × List MemPlace), DataW.trod enc Tryd.prog w 0 (fun _ => true) true fuel 26 cs = some x →
    ∃ c : S26, k26.K w c cs ∧ (∀ j, wfc j c) ∧ ((∀ n ∈ x.1.weights Tryd.prog 26, n ≤ reachBytes) → ∀ j, szc j c) := by
  intro fuel
  induction fuel using Nat.strongRecOn with
  | _ fuel ih =>
  intro cs x h
  obtain ⟨xs, n, hn, rfl, hl, hlen, hf⟩ := DataW.trod_struct Tryd.underlying26 h
  have hl4 : cs.length = 4 := hl
  obtain ⟨v0, v1, v2, v3, rfl⟩ : ∃ v0 v1 v2 v3, cs = [v0, v1, v2, v3] := by
    match cs, hl4 with
    | [a, b, c, d], _ => exact ⟨a, b, c, d, rfl⟩
  have hxl : xs.length = 4 := hlen
  obtain ⟨y0, y1, y2, y3, rfl⟩ : ∃ y0 y1 y2 y3, xs = [y0, y1, y2, y3] := by
    match xs, hxl with
    | [a, b, c, d], _ => exact ⟨a, b, c, d, rfl⟩
  have g0 : DataW.trod enc Tryd.prog w 0 (fun _ => true) true n 3 [v0] = some y0 := hf 0 _ rfl
  have g1 : DataW.trod enc Tryd.prog w 0 (fun _ => true) true n 22 [v1] = some y1 := hf 1 _ rfl
  have g2 : DataW.trod enc Tryd.prog w 0 (fun _ => true) true n 9 [v2] = some y2 := hf 2 _ rfl
  have g3 : DataW.trod enc Tryd.prog w 0 (fun _ => true) true n 24 [v3] = some y3 := hf 3 _ rfl
  obtain ⟨K, e0, _, w0⟩ := DataW.trod_int Tryd.underlying3 g0
  obtain ⟨N, e1, _, w1⟩ := DataW.trod_int Tryd.underlying22 g1
  obtain ⟨S, e2, z2, w2⟩ := DataW.trod_string Tryd.underlying9 g2
  have hfs : ∀ n, n ∈ (y2.1.weights Tryd.prog 9) ∨ n ∈ (y3.1.weights Tryd.prog 24) → n ∈ DataW.weights Tryd.prog 26 (.agg [y0.1, y1.1, y2.1, y3.1]) := by
    intro n hn
    simp only [DataW.weights, Tryd.underlying26]
    show n ∈ DataW.weightsEach Tryd.prog [3, 22, 9, 24] [y0.1, y1.1, y2.1, y3.1]
    simp only [DataW.weightsEach, List.mem_append, List.append_nil]
    rcases hn with hn | hn
    · exact .inr (.inr (.inl hn))
    · exact .inr (.inr (.inr hn))
  have hS : (∀ n ∈ DataW.weights Tryd.prog 26 (.agg [y0.1, y1.1, y2.1, y3.1] : DataW H), n ≤ reachBytes) → S.size ≤ 140737488351232 := fun hall => by
    have := hall S.size (hfs _ (.inl (by rw [z2]; simp [DataW.weights, Array.length_toList])))
    exact this
  injection e0 with e0 _
  injection e1 with e1 _
  injection e2 with e2 _
  subst e0 e1 e2
  rcases DataW.trod_slice Tryd.underlying24 g3 with ⟨e3, _⟩ | ⟨a, len, cap, elems, rest, m, hm, e3, z3, _, hlc, hcap, hel, helem, _, _⟩
  · injection e3 with e3 _
    subst e3
    refine ⟨⟨K, N, S, []⟩, k26_mk w ⟨K, N, S, []⟩ (A3 := none) (c3 := 0) (Nat.le_refl _) (Kd.C_nil _ _), fun j => ?_, fun hall j => ?_⟩
    · cases j with
      | zero => trivial
      | succ j => exact ⟨w0, w1, w2, by simp, fun x hx => by cases hx⟩
    · cases j with
      | zero => trivial
      | succ j => exact ⟨hS hall, fun x hx => by cases hx⟩
  · injection e3 with e3 _
    subst e3
    have hex : ∀ i, i < len → ∃ c : S26, (∃ cs', k26.K w c cs' ∧ ∀ (j : Nat) (u : Value), cs'[j]? = some u → w.cell? (a.add (i * 4 + j)) = some u) ∧ (∀ j, wfc j c) ∧ ((∀ n ∈ DataW.weights Tryd.prog 26 (.agg [y0.1, y1.1, y2.1, y3.1] : DataW H), n ≤ reachBytes) → ∀ j, szc j c) := by
      intro i hi
      have h1 := helem i hi
      rw [List.getElem?_eq_getElem (by omega)] at h1
      obtain ⟨cs', h2, h3⟩ := Option.bind_eq_some_iff.mp h1
      obtain ⟨c, hK, hw, hz⟩ := ih m (by omega) cs' _ h3
      obtain ⟨_, h4, h5⟩ := World.cells?_some h2
      refine ⟨c, ⟨cs', hK, fun j u hu => ?_⟩, hw, fun hall => hz (fun n hn => hall n (hfs n (.inr ?_)))⟩
      rotate_left
      · rw [z3]
        simp only [DataW.weights, Tryd.underlying24]
        exact List.mem_cons_of_mem _ (List.mem_append_left _ (weightsAll_mem (List.mem_map_of_mem (List.getElem_mem _)) n hn))
      have hj : j < 4 := by have := (List.getElem?_eq_some_iff.1 hu).1; have := k26.K_len hK; have e4 : k26.sz = 4 := rfl; omega
      have hc4 : Tryd.prog.cellsOf 26 = 4 := by kernel_rfl
      rw [hc4] at h5
      have h6 := h5 j (by omega)
      rw [add_add] at h6
      exact h6.trans hu
    obtain ⟨L, hL, hLe⟩ := list_of len hex
    subst hL
    refine ⟨⟨K, N, S, L⟩, k26_mk w ⟨K, N, S, L⟩ (A3 := some a) (c3 := cap) hlc ?_, fun j => ?_, fun hall j => ?_⟩
    · refine ⟨rfl, by show L.length ≤ _; simp only [maxLen] at hcap; omega, fun _ => ⟨a, rfl, fun i p hp => ?_⟩⟩
      obtain ⟨⟨cs', hK, hc⟩, _⟩ := hLe i p hp
      exact ⟨cs', k26.K_len hK, hK, hc⟩
    · cases j with
      | zero => trivial
      | succ j =>
        refine ⟨w0, w1, w2, by show L.length ≤ _; omega, fun x hx => ?_⟩
        obtain ⟨i, hi⟩ := List.getElem?_of_mem hx
        exact (hLe i x hi).2.1 j
    · cases j with
      | zero => trivial
      | succ j =>
        refine ⟨hS hall, fun x hx => ?_⟩
        obtain ⟨i, hi⟩ := List.getElem?_of_mem hx
        exact (hLe i x hi).2.2 hall j
end Go.Proofs.YtlkaffbgekbcfaaDoor.Pr
end
section
namespace Go.Proofs.YtlkaffbgekbcfaaDoor.Pure
open Go.RowKit Go.Proofs.YtlkaffbgekbcfaaDoor.Pr Go.Proofs.YtlkaffbgekbcfaaDoorW.PrintWords Go.Proofs.YtlkaffbgekbcfaaDoorW.PrintLast Go.Proofs.YtlkaffbgekbcfaaDoorW.PrintMore
set_option linter.unusedVariables false
set_option linter.unusedSimpArgs false
def nrm : Nat → S26 → S26
  | 0, c => c
  | k + 1, c => if c.f0 = 0 then ⟨0, c.f1, ⟨#[]⟩, []⟩ else if c.f0 = 1 then ⟨1, 0, c.f2, []⟩ else ⟨2, 0, ⟨#[]⟩, c.f3.map (nrm k)⟩
structure WR (rd : List Int → Option (S26 × List Int × Int)) (c : S26) (e : List Int) : Prop where
  bts : Bts e
  one : 1 ≤ e.length
  whole : ∀ rest, rd (e ++ rest) = some (c, rest, 0)
  front : ∀ n, n < e.length → ∃ z r, rd (e.take n) = some (z, r, 3)
theorem lookC_le {n : Nat} (h : lookC n = 0) : n ≤ 1048576 := by
  unfold lookC at h
  split at h
  · cases h
  · omega
theorem fold_read {f : List Int → Option (S26 × List Int × Int)} {g : S26 → List Int → Option (List Int × Int)} {nm : S26 → S26} {ok : S26 → Prop}
    (hf : ∀ x xs ys, ok x → g x xs = some (ys, 0) → ∃ e, ys = xs ++ e ∧ ys.length ≤ 1048576 ∧ WR f (nm x) e) :
    ∀ (L : List S26) (xs ys : List Int), (∀ x ∈ L, ok x) → xs.length ≤ 1048576 → foldW g L xs = some (ys, 0) →
      ∃ e, ys = xs ++ e ∧ ys.length ≤ 1048576 ∧ Bts e ∧ L.length ≤ e.length ∧ (∀ acc rest, foldR f L.length acc (e ++ rest) = some (acc ++ L.map nm, rest, 0)) ∧
        (∀ n, n < e.length → ∀ acc, ∃ z r, foldR f L.length acc (e.take n) = some (z, r, 3))
  | [], xs, ys, hok, hx, h => by
    simp only [foldW, Option.some.injEq, Prod.mk.injEq, and_true] at h
    subst h
    exact ⟨[], by simp, hx, Bts.nil, by simp, fun acc rest => by simp [foldR], fun n hn => by simp at hn⟩
  | x :: L, xs, ys, hok, hx, h => by
    simp only [foldW] at h
    obtain ⟨⟨zs, e1⟩, h1, h2⟩ := Option.bind_eq_some_iff.mp h
    by_cases he : e1 = 0
    · subst he
      rw [if_pos rfl] at h2
      obtain ⟨ex, rfl, hl, hw⟩ := hf x xs zs (hok x (List.mem_cons_self ..)) h1
      obtain ⟨eL, hy, hyl, hb, hlen, hr, hfr⟩ := fold_read hf L _ ys (fun y hy => hok y (List.mem_cons_of_mem _ hy)) hl h2
      refine ⟨ex ++ eL, by rw [hy, List.append_assoc], hyl, hw.bts.append hb, ?_, fun acc rest => ?_, fun n hn acc => ?_⟩
      · have := hw.one
        rw [List.length_append, List.length_cons]; omega
      · rw [List.length_cons, List.append_assoc]
        simp only [foldR, hw.whole, Option.bind_some, if_true]
        rw [hr]
        simp
      · rw [List.length_cons]
        rw [List.length_append] at hn
        by_cases hlt : n < ex.length
        · obtain ⟨z, r, hz⟩ := hw.front n hlt
          rw [List.take_append_of_le_length (by omega)]
          simp only [foldR, hz, Option.bind_some]
          rw [if_neg (by decide)]
          exact ⟨_, _, rfl⟩
        · rw [List.take_append, List.take_of_length_le (by omega)]
          simp only [foldR, hw.whole, Option.bind_some, if_true]
          exact hfr (n - ex.length) (by omega) _
    · rw [if_neg he] at h2
      simp only [Option.some.injEq, Prod.mk.injEq] at h2
      exact absurd h2.2 he
theorem beB4 {n : Int} (h0 : 0 ≤ n) (h1 : n < 4294967296) (rest : List Int) : ((beB n 4 ++ rest).take 4 = beB n 4) ∧ ((beB n 4 ++ rest).drop 4 = rest) ∧ wrap64 (numR (beB n 4) 0) = n := by
  have hl := beB_length n 4
  refine ⟨by rw [List.take_append_of_le_length (by omega), List.take_of_length_le (by omega)], by rw [List.drop_append_of_le_length (by omega), List.drop_of_length_le (by omega), List.nil_append], ?_⟩
  have h := take4 (bs := beB n 4) (beB_bts n h0 4) (by omega)
  rw [List.take_of_length_le (by omega)] at h
  rw [h.2.2.2, be4' n h0 h1, wrap64_in _ (by omega) (by omega)]
theorem take_short {bs : List Int} {n m : Nat} (h : n < m) : (bs.take n).length < m := by rw [List.length_take]; omega
theorem wr_read : ∀ (k : Nat) (c : S26) (deep : Nat) (xs ys : List Int), (∀ j, wfc j c) → wrCell k c deep xs = some (ys, 0) → ∃ e, ys = xs ++ e ∧ ys.length ≤ 1048576 ∧ WR (fun bs => rdCell k deep bs) (nrm k c) e
  | 0, c, deep, xs, ys, hw, h => by simp [wrCell] at h
  | k + 1, c, deep, xs, ys, hw, h => by
    have hw1 := hw 1
    simp only [wfc] at hw1
    obtain ⟨hf0, hf1, hf2, hf3, _⟩ := hw1
    have hf1' : 0 ≤ c.f1 ∧ c.f1 < 18446744073709551616 := by
      simp [Lit.wf, IntKind.min, IntKind.max, IntKind.signed, IntKind.bits] at hf1
      omega
    clear hf0 hf1
    have nil3 : ∃ z r, rdCell (k + 1) deep [] = some (z, r, 3) := ⟨_, _, by rw [rdCell]⟩
    simp only [wrCell] at h
    by_cases h0 : c.f0 = 0
    · rw [if_pos h0] at h
      simp only [Option.some.injEq, Prod.mk.injEq] at h
      obtain ⟨rfl, hl⟩ := h
      have hl' := lookC_le hl
      have hb8 := beB_length c.f1 8
      have ht := take8 (bs := beB c.f1 8) (beB_bts c.f1 hf1'.1 8) (by omega)
      rw [List.take_of_length_le (by omega)] at ht
      refine ⟨_, rfl, by rw [List.length_append, List.length_cons, hb8]; omega, Bts.cons (by omega) (beB_bts _ hf1'.1 _), by simp, fun rest => ?_, fun n hn => ?_⟩
      · have e1 : (beB c.f1 8 ++ rest).take 8 = beB c.f1 8 := by rw [List.take_append_of_le_length (by omega), List.take_of_length_le (by omega)]
        have e2 : (beB c.f1 8 ++ rest).drop 8 = rest := by rw [List.drop_append_of_le_length (by omega), List.drop_of_length_le (by omega), List.nil_append]
        have e3 : ¬ (beB c.f1 8 ++ rest).length < 8 := by rw [List.length_append]; omega
        show rdCell (k + 1) deep (0 :: (beB c.f1 8 ++ rest)) = _
        rw [rdCell, wrap64_in 0 (by omega) (by omega), if_pos rfl, if_neg e3, e1, e2, ht.2.2.2, be8' _ hf1'.1 hf1'.2, nrm, if_pos h0]
      · rw [List.length_cons, hb8] at hn
        cases n with
        | zero => exact nil3
        | succ n =>
          show ∃ z r, rdCell (k + 1) deep (0 :: (beB c.f1 8).take n) = some (z, r, 3)
          rw [rdCell, wrap64_in 0 (by omega) (by omega), if_pos rfl, if_pos (take_short (by omega))]
          exact ⟨_, _, rfl⟩
    · rw [if_neg h0] at h
      by_cases h1 : c.f0 = 1
      · rw [if_pos h1] at h
        by_cases hs : 1048576 < c.f2.size
        · rw [if_pos hs] at h; simp at h
        · rw [if_neg hs] at h
          by_cases hl5 : lookC (xs.length + 5) = 0
          · rw [if_pos hl5] at h
            simp only [Option.some.injEq, Prod.mk.injEq] at h
            obtain ⟨rfl, hl⟩ := h
            have hl' := lookC_le hl
            have hb4 := beB_length c.f2.size 4
            have hbs : (bytesOf c.f2).length = c.f2.size := bytesOf_length c.f2
            have hB := beB4 (n := (c.f2.size : Int)) (by omega) (by omega)
            have hbt : Bts (beB (c.f2.size : Int) 4) := beB_bts _ (by omega) 4
            refine ⟨1 :: (beB c.f2.size 4 ++ bytesOf c.f2), by simp, by simp only [List.length_append, List.length_cons, hb4, hbs]; omega, Bts.cons (by omega) (hbt.append (bytesOf_bts _)), by simp, fun rest => ?_, fun n hn => ?_⟩
            · show rdCell (k + 1) deep (1 :: (beB c.f2.size 4 ++ bytesOf c.f2 ++ rest)) = _
              have hB' := Aside0.mk (hB (bytesOf c.f2 ++ rest))
              rw [rdCell, wrap64_in 1 (by omega) (by omega), if_neg (by decide), if_pos rfl, List.append_assoc, if_neg (by rw [List.length_append]; omega), hB'.out.1, hB'.out.2.1, hB'.out.2.2, if_pos (by omega), if_neg (by rw [List.length_append]; omega), Int.toNat_natCast,
                List.take_append_of_le_length (by omega), List.take_of_length_le (by omega), List.drop_append_of_le_length (by omega), List.drop_of_length_le (by omega), List.nil_append, strOfNums_bytesOf, nrm, if_neg h0, if_pos h1]
            · rw [List.length_cons, List.length_append, hb4, hbs] at hn
              cases n with
              | zero => exact nil3
              | succ n =>
                show ∃ z r, rdCell (k + 1) deep (1 :: (beB c.f2.size 4 ++ bytesOf c.f2).take n) = some (z, r, 3)
                rw [rdCell, wrap64_in 1 (by omega) (by omega), if_neg (by decide), if_pos rfl]
                by_cases hn4 : n < 4
                · rw [if_pos (take_short hn4)]; exact ⟨_, _, rfl⟩
                · rw [List.take_append, List.take_of_length_le (by omega)]
                  have hB' := Aside0.mk (hB ((bytesOf c.f2).take (n - (beB c.f2.size 4).length)))
                  rw [if_neg (by rw [List.length_append]; omega), hB'.out.1, hB'.out.2.1, hB'.out.2.2, if_pos (by omega), if_pos (by rw [List.length_take]; omega)]
                  exact ⟨_, _, rfl⟩
          · rw [if_neg hl5] at h; simp at h
      · rw [if_neg h1] at h
        by_cases h2 : c.f0 = 2
        · rw [if_pos h2] at h
          by_cases hd : 64 < deep + 1
          · rw [if_pos hd] at h; simp at h
          · rw [if_neg hd] at h
            by_cases hs : 1048576 < c.f3.length
            · rw [if_pos hs] at h; simp at h
            · rw [if_neg hs] at h
              by_cases hl5 : lookC (xs.length + 5) = 0
              · rw [if_pos hl5] at h
                have hl5' := lookC_le hl5
                have hb4 := beB_length c.f3.length 4
                have hbt : Bts (beB (c.f3.length : Int) 4) := beB_bts _ (by omega) 4
                obtain ⟨e, rfl, hyl, hbe, hle, hr, hfr⟩ := fold_read (f := fun bs => rdCell k (deep + 1) bs) (nm := nrm k) (ok := fun x => ∀ j, wfc j x)
                  (fun x xs ys hx hg => wr_read k x (deep + 1) xs ys hx hg) c.f3 _ ys (fun x hx j => (hw (j + 1)).2.2.2.2 x hx) (by simp only [List.length_append, List.length_cons, hb4]; omega) h
                have hB := beB4 (n := (c.f3.length : Int)) (by omega) (by omega)
                refine ⟨2 :: (beB c.f3.length 4 ++ e), by simp, hyl, Bts.cons (by omega) (hbt.append hbe), by simp, fun rest => ?_, fun n hn => ?_⟩
                · show rdCell (k + 1) deep (2 :: (beB c.f3.length 4 ++ e ++ rest)) = _
                  have hB' := Aside0.mk (hB (e ++ rest))
                  rw [rdCell, wrap64_in 2 (by omega) (by omega), if_neg (by decide), if_neg (by decide), if_pos rfl, if_neg hd, List.append_assoc, if_neg (by rw [List.length_append]; omega), hB'.out.1, hB'.out.2.1, hB'.out.2.2, if_neg (by rw [List.length_append]; omega), Int.toNat_natCast, hr, nrm, if_neg h0, if_neg h1]
                  simp
                · rw [List.length_cons, List.length_append, hb4] at hn
                  cases n with
                  | zero => exact nil3
                  | succ n =>
                    show ∃ z r, rdCell (k + 1) deep (2 :: (beB c.f3.length 4 ++ e).take n) = some (z, r, 3)
                    rw [rdCell, wrap64_in 2 (by omega) (by omega), if_neg (by decide), if_neg (by decide), if_pos rfl, if_neg hd]
                    by_cases hn4 : n < 4
                    · rw [if_pos (take_short hn4)]; exact ⟨_, _, rfl⟩
                    · rw [List.take_append, List.take_of_length_le (by omega)]
                      have hB' := Aside0.mk (hB (e.take (n - (beB c.f3.length 4).length)))
                      rw [if_neg (by rw [List.length_append]; omega), hB'.out.1, hB'.out.2.1, hB'.out.2.2]
                      split
                      · exact ⟨_, _, rfl⟩
                      · rw [Int.toNat_natCast]
                        obtain ⟨z, r, hz⟩ := hfr (n - (beB c.f3.length 4).length) (by omega) []
                        rw [hz]
                        exact ⟨_, _, rfl⟩
              · rw [if_neg hl5] at h; simp at h
        · rw [if_neg h2] at h; simp at h
end Go.Proofs.YtlkaffbgekbcfaaDoor.Pure
end
section
namespace Go.Proofs.YtlkaffbgekbcfaaDoor.Pr
open Go.RowKit Go.Proofs.YtlkaffbgekbcfaaDoorW.PrintWords Go.Proofs.YtlkaffbgekbcfaaDoorW.PrintLast Go.Proofs.YtlkaffbgekbcfaaDoorW.PrintMore
attribute [local go_sem] max2_int min2_int max_two min_two max_three min_three max_four min_four
set_option linter.unusedVariables false
set_option linter.unusedSimpArgs false
mutual
def minstrelref07_Same.l0 : Nat → Int → Int → Int → ByteArray → List (S26) → Int → Int → ByteArray → List (S26) → Option (Bool)
 | 0, _, _, _, _, _, _, _, _, _ => none
 | k + 1, x5, x397000, x397001, x397002, x397003, x398000, x398001, x398002, x398003 => if x5 < (x397003.length : Int) then (if 0 ≤ x5 then (if x5 < (x398003.length : Int) then ((minstrelref07_Same.f k ((rd_T26 x397003 x5).f0) ((rd_T26 x397003 x5).f1) ((rd_T26 x397003 x5).f2) ((rd_T26 x397003 x5).f3) ((rd_T26 x398003 x5).f0) ((rd_T26 x398003 x5).f1) ((rd_T26 x398003 x5).f2) ((rd_T26 x398003 x5).f3)).bind fun t400 => (if t400 = true then (minstrelref07_Same.l0 k (wrap64 (x5 + 1)) x397000 x397001 x397002 x397003 x398000 x398001 x398002 x398003) else (some false))) else (none)) else (none)) else (some true)
def minstrelref07_Same.f : Nat → Int → Int → ByteArray → List (S26) → Int → Int → ByteArray → List (S26) → Option (Bool)
 | 0, _, _, _, _, _, _, _, _ => none
 | k + 1, a0_0, a0_1, a0_2, l0_3, a1_0, a1_1, a1_2, l1_3 => if a0_0 = a1_0 then (if a0_0 = 0 then (some (a0_1 == a1_1)) else (if a0_0 = 1 then (some (a0_2.toList == a1_2.toList)) else (if a0_0 = 2 then (if (l0_3.length : Int) = (l1_3.length : Int) then (minstrelref07_Same.l0 k 0 a0_0 a0_1 a0_2 l0_3 a1_0 a1_1 a1_2 l1_3) else (some false)) else (some true)))) else (some false)
end
theorem minstrelref07_Same.mono_l : ∀ k, (∀ y0 y1 y2 y3 y4 y5 y6 y7, LeO (minstrelref07_Same.f k y0 y1 y2 y3 y4 y5 y6 y7) (minstrelref07_Same.f (k + 1) y0 y1 y2 y3 y4 y5 y6 y7)) ∧ (∀ y0 y1 y2 y3 y4 y5 y6 y7 y8, LeO (minstrelref07_Same.l0 k y0 y1 y2 y3 y4 y5 y6 y7 y8) (minstrelref07_Same.l0 (k + 1) y0 y1 y2 y3 y4 y5 y6 y7 y8))
 | 0 => ⟨fun _ _ _ _ _ _ _ _ r h => by simp [minstrelref07_Same.f] at h, fun _ _ _ _ _ _ _ _ _ r h => by simp [minstrelref07_Same.l0] at h⟩
 | k + 1 => by
  obtain ⟨ih0, ih1⟩ := minstrelref07_Same.mono_l k
  refine ⟨?_, ?_⟩
  ·intro y0 y1 y2 y3 y4 y5 y6 y7
   unfold minstrelref07_Same.f
   repeat' first
   | (with_reducible exact ih0 _ _ _ _ _ _ _ _)
   | (with_reducible exact ih1 _ _ _ _ _ _ _ _ _)
   | (with_reducible exact LeO.refl _)
   | (with_reducible exact LeO.none _)
   | (with_reducible refine LeO.ite ?_ ?_)
   | (with_reducible refine LeO.bind ?_ (fun _ => ?_))
   | exact ih0 _ _ _ _ _ _ _ _
   | exact ih1 _ _ _ _ _ _ _ _ _
   | exact LeO.none _
   | refine LeO.ite ?_ ?_
   | refine LeO.bind ?_ (fun _ => ?_)
  ·intro y0 y1 y2 y3 y4 y5 y6 y7 y8
   unfold minstrelref07_Same.l0
   repeat' first
   | (with_reducible exact ih0 _ _ _ _ _ _ _ _)
   | (with_reducible exact ih1 _ _ _ _ _ _ _ _ _)
   | (with_reducible exact LeO.refl _)
   | (with_reducible exact LeO.none _)
   | (with_reducible refine LeO.ite ?_ ?_)
   | (with_reducible refine LeO.bind ?_ (fun _ => ?_))
   | exact ih0 _ _ _ _ _ _ _ _
   | exact ih1 _ _ _ _ _ _ _ _ _
   | exact LeO.none _
   | refine LeO.ite ?_ ?_
   | refine LeO.bind ?_ (fun _ => ?_)
theorem minstrelref07_Same.mono : ∀ a0 a1 a2 a3 a4 a5 a6 a7 k, LeO (minstrelref07_Same.f k a0 a1 a2 a3 a4 a5 a6 a7) (minstrelref07_Same.f (k + 1) a0 a1 a2 a3 a4 a5 a6 a7) := by
 intro a0 a1 a2 a3 a4 a5 a6 a7 k
 obtain ⟨ih0, ih1⟩ := minstrelref07_Same.mono_l k
 exact ih0 a0 a1 a2 a3 a4 a5 a6 a7
def minstrelref07_Same.T13 : Bool × List (List Nat × List Nat) := (true, [([], []), ([0], [0]), ([], []), ([1, 2], [1, 2]), ([3], [3]), ([], []), ([5], [5]), ([], []), ([6, 7], [6, 7]), ([8], [8]), ([4, 9], [4, 9]), ([10], [10])])
def minstrelref07_Same.B13 : List Nat := [0, 1, 0, 7, 15, 0, 32, 0, 224, 480, 1023, 2047]
theorem minstrelref07_Same.tab13 : rtab .any (opsOf Tryd.f19 13) = minstrelref07_Same.T13 := by kernel_rfl
theorem minstrelref07_Same.bits13 : waitsOk minstrelref07_Same.T13.2 minstrelref07_Same.B13 = true := by kernel_rfl
set_option maxHeartbeats 8000000 in
set_option maxRecDepth 100000 in
theorem minstrelref07_Same.calls (k : Nat) : ∀ (a0_0 : Int) (a0_1 : Int) (a0_2 : ByteArray) (A0_3 : Option Addr) (c0_3 : Nat) (l0_3 : List (S26)) (a1_0 : Int) (a1_1 : Int) (a1_2 : ByteArray) (A1_3 : Option Addr) (c1_3 : Nat) (l1_3 : List (S26)) (r : Bool) (w : World) (hr0_3 : Kd.C k26 w A0_3 l0_3.length l0_3) (hc0_3 : l0_3.length ≤ c0_3) (hr1_3 : Kd.C k26 w A1_3 l1_3.length l1_3) (hc1_3 : l1_3.length ≤ c1_3) (h : minstrelref07_Same.f k a0_0 a0_1 a0_2 l0_3 a1_0 a1_1 a1_2 l1_3 = some r),
  Calls Tryd.prog 19 #[.agg #[.int .i64 a0_0, .int .u64 a0_1, .string a0_2, .slice A0_3 l0_3.length c0_3], .agg #[.int .i64 a1_0, .int .u64 a1_1, .string a1_2, .slice A1_3 l1_3.length c1_3]] w fun e w' => e = .returned (.bool r) ∧ Below w.heap.size w w' := by
 induction k using Nat.strongRecOn with
 | _ k ih =>
 intro a0_0 a0_1 a0_2 A0_3 c0_3 l0_3 a1_0 a1_1 a1_2 A1_3 c1_3 l1_3 r w hr0_3 hc0_3 hr1_3 hc1_3 h
 cases k with
 | zero => exact absurd h (by simp [minstrelref07_Same.f])
 | succ k =>
 simp only [minstrelref07_Same.f] at h
 have hu26 := Tryd.underlying26
 have HR0_3 := Aside0.mk hr0_3
 have HC0_3 := Aside0.mk hc0_3
 clear hr0_3 hc0_3
 have HR1_3 := Aside0.mk hr1_3
 have HC1_3 := Aside0.mk hc1_3
 clear hr1_3 hc1_3
 have HB := Aside0.mk (Below.refl w.heap.size w)
 have H : (if a0_0 = a1_0 then (if a0_0 = 0 then (some (a0_1 == a1_1)) else (if a0_0 = 1 then (some (a0_2.toList == a1_2.toList)) else (if a0_0 = 2 then (if (l0_3.length : Int) = (l1_3.length : Int) then (minstrelref07_Same.l0 k 0 a0_0 a0_1 a0_2 l0_3 a1_0 a1_1 a1_2 l1_3) else (some false)) else (some true)))) else (some false)) = some r := h
 clear h
 by_cases c3 : a0_0 = a1_0
 ·rw [if_pos c3] at H
  have c3b0 : (a0_0 == a1_0) = true := beq_iff_eq.mpr c3
  have c3b1 : (a0_0 != a1_0) = false := bne_eq_false_iff_eq.mpr c3
  clear c3
  by_cases c4 : a0_0 = 0
  ·rw [if_pos c4] at H
   have c4b0 : (a0_0 == 0) = true := beq_iff_eq.mpr c4
   have c4b1 : (a0_0 != 0) = false := bne_eq_false_iff_eq.mpr c4
   clear c4
   obtain rfl := Option.some.inj H
   go_enter Tryd.func19, Tryd.ntmps19
   go_wp2_with (first | ((with_reducible refine gate_dst (N := 2) rfl ?_); refine box_event ?hg (N := 2) ?hd (cs := #[.int .i64 a0_0, .int .u64 a0_1, .string a0_2, .slice A0_3 l0_3.length c0_3]) (t := 26) ?hr ?_; (case hd => rfl); (case hg => rfl); (case hr => first | (go_simp; done) | (go_simp; rfl)); intro gb396 hg w5 hbox hb; have n0_ := Aside0.mk (below_step pB hb); have n1_ := Aside0.mk (hbox); have n2_ := Aside0.mk ((by rw [hg]; exact (below_size pB) : w.heap.size ≤ gb396)); have n3_ := Aside0.mk ((by rw [hg]; exact (below_size pB) : w.heap.size ≤ gb396)); clear HB; have HB := n0_; have BK396 := n1_; have GW396 := n2_; have GE396 := n3_; clear n0_ n1_ n2_ n3_; clear hb hbox hg) | ((with_reducible refine gate_dst (N := 3) rfl ?_); refine box_event ?hg (N := 3) ?hd (cs := #[.int .i64 a1_0, .int .u64 a1_1, .string a1_2, .slice A1_3 l1_3.length c1_3]) (t := 26) ?hr ?_; (case hd => rfl); (case hg => rfl); (case hr => first | (go_simp; done) | (go_simp; rfl)); intro gb397 hg w6 hbox hb; have n0_ := Aside0.mk (pkb BK396.out hb); have n1_ := Aside0.mk (below_step pB hb); have n2_ := Aside0.mk (hbox); have n3_ := Aside0.mk ((by rw [hg]; exact (below_size pB) : w.heap.size ≤ gb397)); have n4_ := Aside0.mk ((by rw [hg]; exact (below_size pB) : w.heap.size ≤ gb397)); have n5_ := Aside0.mk ((by rw [hg]; exact Nat.ne_of_lt (pkl BK396.out) : gb396 ≠ gb397)); have n6_ := Aside0.mk ((by rw [hg]; exact Nat.ne_of_gt (pkl BK396.out) : gb397 ≠ gb396)); clear BK396; clear HB; have BK396 := n0_; have HB := n1_; have BK397 := n2_; have GW397 := n3_; have GE397 := n4_; have NB396_397 := n5_; have NB397_396 := n6_; clear n0_ n1_ n2_ n3_ n4_ n5_ n6_; clear hb hbox hg; have hnb7 := NB396_397.out; have hnc7 := NB397_396.out; obtain ⟨hcz8_0, hcz8_1, hcz8_2, hcz8_3, hfz8_0, hfz8_1, hfz8_2, hfz8_3⟩ := cf4 BK396.out; obtain ⟨hcz9_0, hcz9_1, hcz9_2, hcz9_3, hfz9_0, hfz9_1, hfz9_2, hfz9_3⟩ := cf4 BK397.out))
   go_ret
   exact ⟨pE, pB⟩
  ·rw [if_neg c4] at H
   have c4b0 : (a0_0 == 0) = false := beq_eq_false_iff_ne.mpr c4
   have c4b1 : (a0_0 != 0) = true := bne_iff_ne.mpr c4
   by_cases c10 : a0_0 = 1
   ·rw [if_pos c10] at H
    have c10b0 : (a0_0 == 1) = true := beq_iff_eq.mpr c10
    have c10b1 : (a0_0 != 1) = false := bne_eq_false_iff_eq.mpr c10
    clear c10
    obtain rfl := Option.some.inj H
    go_enter Tryd.func19, Tryd.ntmps19
    go_wp2_with (first | ((with_reducible refine gate_dst (N := 2) rfl ?_); refine box_event ?hg (N := 2) ?hd (cs := #[.int .i64 a0_0, .int .u64 a0_1, .string a0_2, .slice A0_3 l0_3.length c0_3]) (t := 26) ?hr ?_; (case hd => rfl); (case hg => rfl); (case hr => first | (go_simp; done) | (go_simp; rfl)); intro gb396 hg w11 hbox hb; have n0_ := Aside0.mk (below_step pB hb); have n1_ := Aside0.mk (hbox); have n2_ := Aside0.mk ((by rw [hg]; exact (below_size pB) : w.heap.size ≤ gb396)); have n3_ := Aside0.mk ((by rw [hg]; exact (below_size pB) : w.heap.size ≤ gb396)); clear HB; have HB := n0_; have BK396 := n1_; have GW396 := n2_; have GE396 := n3_; clear n0_ n1_ n2_ n3_; clear hb hbox hg) | ((with_reducible refine gate_dst (N := 3) rfl ?_); refine box_event ?hg (N := 3) ?hd (cs := #[.int .i64 a1_0, .int .u64 a1_1, .string a1_2, .slice A1_3 l1_3.length c1_3]) (t := 26) ?hr ?_; (case hd => rfl); (case hg => rfl); (case hr => first | (go_simp; done) | (go_simp; rfl)); intro gb397 hg w12 hbox hb; have n0_ := Aside0.mk (pkb BK396.out hb); have n1_ := Aside0.mk (below_step pB hb); have n2_ := Aside0.mk (hbox); have n3_ := Aside0.mk ((by rw [hg]; exact (below_size pB) : w.heap.size ≤ gb397)); have n4_ := Aside0.mk ((by rw [hg]; exact (below_size pB) : w.heap.size ≤ gb397)); have n5_ := Aside0.mk ((by rw [hg]; exact Nat.ne_of_lt (pkl BK396.out) : gb396 ≠ gb397)); have n6_ := Aside0.mk ((by rw [hg]; exact Nat.ne_of_gt (pkl BK396.out) : gb397 ≠ gb396)); clear BK396; clear HB; have BK396 := n0_; have HB := n1_; have BK397 := n2_; have GW397 := n3_; have GE397 := n4_; have NB396_397 := n5_; have NB397_396 := n6_; clear n0_ n1_ n2_ n3_ n4_ n5_ n6_; clear hb hbox hg; have hnb13 := NB396_397.out; have hnc13 := NB397_396.out; obtain ⟨hcz14_0, hcz14_1, hcz14_2, hcz14_3, hfz14_0, hfz14_1, hfz14_2, hfz14_3⟩ := cf4 BK396.out; obtain ⟨hcz15_0, hcz15_1, hcz15_2, hcz15_3, hfz15_0, hfz15_1, hfz15_2, hfz15_3⟩ := cf4 BK397.out))
    go_ret
    exact ⟨pE, pB⟩
   ·rw [if_neg c10] at H
    have c10b0 : (a0_0 == 1) = false := beq_eq_false_iff_ne.mpr c10
    have c10b1 : (a0_0 != 1) = true := bne_iff_ne.mpr c10
    by_cases c16 : a0_0 = 2
    ·rw [if_pos c16] at H
     have c16b0 : (a0_0 == 2) = true := beq_iff_eq.mpr c16
     have c16b1 : (a0_0 != 2) = false := bne_eq_false_iff_eq.mpr c16
     clear c16
     by_cases c17 : (l0_3.length : Int) = (l1_3.length : Int)
     ·rw [if_pos c17] at H
      have c17b0 : ((l0_3.length : Int) == (l1_3.length : Int)) = true := beq_iff_eq.mpr c17
      have c17b1 : ((l0_3.length : Int) != (l1_3.length : Int)) = false := bne_eq_false_iff_eq.mpr c17
      have c17b2 : (l0_3.length == l1_3.length) = true := by first | simpa using c17 | (simp at c17 ⊢; omega)
      clear c17
      have H' := Aside0.mk H
      clear H
      go_enter Tryd.func19, Tryd.ntmps19
      go_wp2_with (first | ((with_reducible refine gate_dst (N := 2) rfl ?_); refine box_event ?hg (N := 2) ?hd (cs := #[.int .i64 a0_0, .int .u64 a0_1, .string a0_2, .slice A0_3 l0_3.length c0_3]) (t := 26) ?hr ?_; (case hd => rfl); (case hg => rfl); (case hr => first | (go_simp; done) | (go_simp; rfl)); intro gb396 hg w18 hbox hb; have n0_ := Aside0.mk (below_step pB hb); have n1_ := Aside0.mk (hbox); have n2_ := Aside0.mk ((by rw [hg]; exact (below_size pB) : w.heap.size ≤ gb396)); have n3_ := Aside0.mk ((by rw [hg]; exact (below_size pB) : w.heap.size ≤ gb396)); clear HB; have HB := n0_; have BK396 := n1_; have GW396 := n2_; have GE396 := n3_; clear n0_ n1_ n2_ n3_; clear hb hbox hg) | ((with_reducible refine gate_dst (N := 3) rfl ?_); refine box_event ?hg (N := 3) ?hd (cs := #[.int .i64 a1_0, .int .u64 a1_1, .string a1_2, .slice A1_3 l1_3.length c1_3]) (t := 26) ?hr ?_; (case hd => rfl); (case hg => rfl); (case hr => first | (go_simp; done) | (go_simp; rfl)); intro gb397 hg w19 hbox hb; have n0_ := Aside0.mk (pkb BK396.out hb); have n1_ := Aside0.mk (below_step pB hb); have n2_ := Aside0.mk (hbox); have n3_ := Aside0.mk ((by rw [hg]; exact (below_size pB) : w.heap.size ≤ gb397)); have n4_ := Aside0.mk ((by rw [hg]; exact (below_size pB) : w.heap.size ≤ gb397)); have n5_ := Aside0.mk ((by rw [hg]; exact Nat.ne_of_lt (pkl BK396.out) : gb396 ≠ gb397)); have n6_ := Aside0.mk ((by rw [hg]; exact Nat.ne_of_gt (pkl BK396.out) : gb397 ≠ gb396)); clear BK396; clear HB; have BK396 := n0_; have HB := n1_; have BK397 := n2_; have GW397 := n3_; have GE397 := n4_; have NB396_397 := n5_; have NB397_396 := n6_; clear n0_ n1_ n2_ n3_ n4_ n5_ n6_; clear hb hbox hg; have hnb20 := NB396_397.out; have hnc20 := NB397_396.out; obtain ⟨hcz21_0, hcz21_1, hcz21_2, hcz21_3, hfz21_0, hfz21_1, hfz21_2, hfz21_3⟩ := cf4 BK396.out; obtain ⟨hcz22_0, hcz22_1, hcz22_2, hcz22_3, hfz22_0, hfz22_1, hfz22_2, hfz22_3⟩ := cf4 BK397.out))
      go_loopg [5] k (fun kq v5 w' => ∃ (x5_1 : Int), v5 = .int .i64 x5_1 ∧ Aside0 (minstrelref07_Same.l0 kq x5_1 a0_0 a0_1 a0_2 l0_3 a1_0 a1_1 a1_2 l1_3 = some r) ∧ Aside0 (kq ≤ k) ∧ Aside0 (w'.heap[gb396]? = some (.cells #[.int .i64 a0_0, .int .u64 a0_1, .string a0_2, (.slice A0_3 l0_3.length c0_3)] 26 (0, 0))) ∧ Aside0 (w'.heap[gb397]? = some (.cells #[.int .i64 a1_0, .int .u64 a1_1, .string a1_2, (.slice A1_3 l1_3.length c1_3)] 26 (0, 0))) ∧ Aside0 (Below w.heap.size w w'))
      case atStart => exact ⟨(0), (by first | rfl | (simp; done) | (simp [*]; done)), H', ⟨Nat.le_refl _⟩, ⟨by (with_reducible repeat (first | refine blk_drewN ?_ _ | refine blk_drew ?_ | refine blk_alloc ?_ _)); exact BK396.out⟩, ⟨by (with_reducible repeat (first | refine blk_drewN ?_ _ | refine blk_drew ?_ | refine blk_alloc ?_ _)); exact BK397.out⟩, ⟨pB⟩⟩
      case round =>
       clear H'
       try clear c1
       try clear c2
       try clear p2
       try clear c3
       try clear c3b0
       try clear c3b1
       try clear c4
       try clear c4b0
       try clear c4b1
       try clear c7
       try clear c10
       try clear c10b0
       try clear c10b1
       try clear c13
       try clear c16
       try clear c16b0
       try clear c16b1
       try clear c17
       try clear c17b0
       try clear c17b1
       try clear c17b2
       try clear c19
       try clear c20
       try clear hcz14_0 hcz14_1 hcz14_2 hcz14_3 hcz15_0 hcz15_1 hcz15_2 hcz15_3 hcz21_0 hcz21_1 hcz21_2 hcz21_3 hcz22_0 hcz22_1 hcz22_2 hcz22_3 hcz8_0 hcz8_1 hcz8_2 hcz8_3 hcz9_0 hcz9_1 hcz9_2 hcz9_3 hfz14_0 hfz14_1 hfz14_2 hfz14_3 hfz15_0 hfz15_1 hfz15_2 hfz15_3 hfz21_0 hfz21_1 hfz21_2 hfz21_3 hfz22_0 hfz22_1 hfz22_2 hfz22_3 hfz8_0 hfz8_1 hfz8_2 hfz8_3 hfz9_0 hfz9_1 hfz9_2 hfz9_3
       obtain ⟨x5_1, rfl, HA, HK1, BK396, BK397, HB⟩ := hrel
       cases gk with
       | zero => exact absurd HA.out (by simp [minstrelref07_Same.l0])
       | succ k1 =>
        have H := HA.out
        clear HA
        simp only [minstrelref07_Same.l0] at H
        by_cases c23 : x5_1 < (l0_3.length : Int)
        ·rw [if_pos c23] at H
         have c23b0 : decide (x5_1 < (l0_3.length : Int)) = true := decide_eq_true c23
         clear c23
         by_cases c24 : 0 ≤ x5_1
         ·rw [if_pos c24] at H
          have c24b0 : decide (0 ≤ x5_1) = true := decide_eq_true c24
          clear c24
          by_cases c25 : x5_1 < (l1_3.length : Int)
          ·rw [if_pos c25] at H
           have c25b0 : decide (x5_1 < (l1_3.length : Int)) = true := decide_eq_true c25
           clear c25
           replace H := Option.bind_eq_some_iff.mp H
           obtain ⟨t400, A260, H⟩ := H
           replace H : (if t400 = true then (minstrelref07_Same.l0 k1 (wrap64 (x5_1 + 1)) a0_0 a0_1 a0_2 l0_3 a1_0 a1_1 a1_2 l1_3) else (some false)) = some r := H
           have A26 := Aside0.mk A260
           clear A260
           by_cases c27 : t400 = true
           ·subst c27
            have H1 : (minstrelref07_Same.l0 k1 (wrap64 (x5_1 + 1)) a0_0 a0_1 a0_2 l0_3 a1_0 a1_1 a1_2 l1_3) = some r := by rw [if_pos rfl] at H; exact H
            clear H
            have H := H1
            clear H1
            have H' := Aside0.mk H
            clear H
            have hnb28 := NB396_397.out
            have hnc28 := NB397_396.out
            obtain ⟨hcz29_0, hcz29_1, hcz29_2, hcz29_3, hfz29_0, hfz29_1, hfz29_2, hfz29_3⟩ := cf4 BK396.out
            try go_wp2
            have n0_ := Aside0.mk (blk_drew BK396.out)
            have n1_ := Aside0.mk (blk_drew BK397.out)
            have n2_ := Aside0.mk (below_drew1 HB.out)
            clear BK396 BK397 HB; have BK396 := n0_; have BK397 := n1_; have HB := n2_; clear n0_ n1_ n2_
            have p398 : 0 ≤ (x5_1 : Int) := pD
            have q398 : x5_1 < (l0_3.length : Int) := pD
            obtain ⟨ad398, A398_3, c398_3, e398, hx398_0, hx398_1, hx398_2, hx398_3, hl398_3, hi398_3⟩ := at_T26 HR0_3.out x5_1 p398 q398
            have hw398_3 := hx398_3
            have hw398_2 := hx398_2
            have hw398_1 := hx398_1
            have hw398_0 := hx398_0
            cases e398
            replace hx398_0 := (HB.out.cell (World.block_lt_of_cell? w _ hx398_0)).trans hx398_0
            replace hx398_1 := (HB.out.cell (World.block_lt_of_cell? w _ hx398_1)).trans hx398_1
            replace hx398_2 := (HB.out.cell (World.block_lt_of_cell? w _ hx398_2)).trans hx398_2
            replace hx398_3 := (HB.out.cell (World.block_lt_of_cell? w _ hx398_3)).trans hx398_3
            have HR398_3 := Aside0.mk hi398_3
            have HC398_3 := Aside0.mk hl398_3
            clear hi398_3 hl398_3
            replace p398 := eq_true p398
            replace q398 := eq_true q398
            have p399 : 0 ≤ (x5_1 : Int) := pD
            have q399 : x5_1 < (l1_3.length : Int) := pD
            obtain ⟨ad399, A399_3, c399_3, e399, hx399_0, hx399_1, hx399_2, hx399_3, hl399_3, hi399_3⟩ := at_T26 HR1_3.out x5_1 p399 q399
            have hw399_3 := hx399_3
            have hw399_2 := hx399_2
            have hw399_1 := hx399_1
            have hw399_0 := hx399_0
            cases e399
            replace hx399_0 := (HB.out.cell (World.block_lt_of_cell? w _ hx399_0)).trans hx399_0
            replace hx399_1 := (HB.out.cell (World.block_lt_of_cell? w _ hx399_1)).trans hx399_1
            replace hx399_2 := (HB.out.cell (World.block_lt_of_cell? w _ hx399_2)).trans hx399_2
            replace hx399_3 := (HB.out.cell (World.block_lt_of_cell? w _ hx399_3)).trans hx399_3
            have HR399_3 := Aside0.mk hi399_3
            have HC399_3 := Aside0.mk hl399_3
            clear hi399_3 hl399_3
            replace p399 := eq_true p399
            replace q399 := eq_true q399
            refine start_ (n := 12) (S := fun w' => w'.cell? ⟨gb396, 0, none⟩ = some (.int .i64 a0_0) ∧ w'.cell? ⟨gb396, 1, none⟩ = some (.int .u64 a0_1) ∧ w'.cell? ⟨gb396, 2, none⟩ = some (.string a0_2) ∧ w'.cell? ⟨gb396, 3, none⟩ = some (.slice (some ad398) l0_3.length c0_3) ∧ w'.cell? ⟨gb397, 0, none⟩ = some (.int .i64 a1_0) ∧ w'.cell? ⟨gb397, 1, none⟩ = some (.int .u64 a1_1) ∧ w'.cell? ⟨gb397, 2, none⟩ = some (.string a1_2) ∧ w'.cell? ⟨gb397, 3, none⟩ = some (.slice (some ad399) l1_3.length c1_3) ∧ w'.cell? (ad398.add ((x5_1).toNat * 4)) = some (.int .i64 ((rd_T26 l0_3 x5_1).f0)) ∧ w'.cell? ⟨(ad398.add ((x5_1).toNat * 4)).block, (ad398.add ((x5_1).toNat * 4)).off + 1, none⟩ = some (.int .u64 ((rd_T26 l0_3 x5_1).f1)) ∧ w'.cell? ⟨(ad398.add ((x5_1).toNat * 4)).block, (ad398.add ((x5_1).toNat * 4)).off + 2, none⟩ = some (.string ((rd_T26 l0_3 x5_1).f2)) ∧ w'.cell? ⟨(ad398.add ((x5_1).toNat * 4)).block, (ad398.add ((x5_1).toNat * 4)).off + 3, none⟩ = some (.slice A398_3 ((rd_T26 l0_3 x5_1).f3).length c398_3) ∧ w'.cell? (ad399.add ((x5_1).toNat * 4)) = some (.int .i64 ((rd_T26 l1_3 x5_1).f0)) ∧ w'.cell? ⟨(ad399.add ((x5_1).toNat * 4)).block, (ad399.add ((x5_1).toNat * 4)).off + 1, none⟩ = some (.int .u64 ((rd_T26 l1_3 x5_1).f1)) ∧ w'.cell? ⟨(ad399.add ((x5_1).toNat * 4)).block, (ad399.add ((x5_1).toNat * 4)).off + 2, none⟩ = some (.string ((rd_T26 l1_3 x5_1).f2)) ∧ w'.cell? ⟨(ad399.add ((x5_1).toNat * 4)).block, (ad399.add ((x5_1).toNat * 4)).off + 3, none⟩ = some (.slice A399_3 ((rd_T26 l1_3 x5_1).f3).length c399_3)) (ds := []) #[false, false, false, false, false, false, false, false, false, false, false, false] (by kernel_rfl) rfl rfl ⟨cz0 BK396.out, cz1 BK396.out, cz2 BK396.out, cz3 BK396.out, cz0 BK397.out, cz1 BK397.out, cz2 BK397.out, cz3 BK397.out, ((HB.out.cell (World.block_lt_of_cell? w _ hw398_0)).trans hw398_0), ((HB.out.cell (World.block_lt_of_cell? w _ hw398_1)).trans hw398_1), ((HB.out.cell (World.block_lt_of_cell? w _ hw398_2)).trans hw398_2), ((HB.out.cell (World.block_lt_of_cell? w _ hw398_3)).trans hw398_3), ((HB.out.cell (World.block_lt_of_cell? w _ hw399_0)).trans hw399_0), ((HB.out.cell (World.block_lt_of_cell? w _ hw399_1)).trans hw399_1), ((HB.out.cell (World.block_lt_of_cell? w _ hw399_2)).trans hw399_2), ((HB.out.cell (World.block_lt_of_cell? w _ hw399_3)).trans hw399_3)⟩ (fun hHeld => ?_); refine with_tabW minstrelref07_Same.tab13 minstrelref07_Same.bits13 (fun HT_ HW_ => ?_)
            generalize wr.drew = w30 at BK396 BK397 HB HR398_3 HR399_3 hx398_0 hx398_1 hx398_2 hx398_3 hx399_0 hx399_1 hx399_2 hx399_3 hHeld ⊢
            refine pure_ (i := 0) (N := some 44) (v := ?_) (a' := ?_) #[true, false, false, false, false, false, false, false, false, false, false, false] rfl rfl (any_of HT_.out (by kernel_rfl)) (fun _ _ _ h => h) (Or.inl ⟨by kernel_rfl, ?_⟩) ?_ ?_
            rotate_left
            ·intro w'
             go_simp
             with_reducible rfl
            rotate_left
            ·exact pA
            refine pure_ (i := 2) (N := some 46) (v := ?_) (a' := ?_) #[true, false, true, false, false, false, false, false, false, false, false, false] rfl rfl (any_of HT_.out (by kernel_rfl)) (fun _ _ _ h => h) (Or.inl ⟨by kernel_rfl, ?_⟩) ?_ ?_
            rotate_left
            ·intro w'
             go_simp
             with_reducible rfl
            rotate_left
            ·exact pA
            refine pure_ (i := 5) (N := some 49) (v := ?_) (a' := ?_) #[true, false, true, false, false, true, false, false, false, false, false, false] rfl rfl (any_of HT_.out (by kernel_rfl)) (fun _ _ _ h => h) (Or.inl ⟨by kernel_rfl, ?_⟩) ?_ ?_
            rotate_left
            ·intro w'
             go_simp
             with_reducible rfl
            rotate_left
            ·exact pA
            refine pure_ (i := 7) (N := some 51) (v := ?_) (a' := ?_) #[true, false, true, false, false, true, false, true, false, false, false, false] rfl rfl (any_of HT_.out (by kernel_rfl)) (fun _ _ _ h => h) (Or.inl ⟨by kernel_rfl, ?_⟩) ?_ ?_
            rotate_left
            ·intro w'
             go_simp
             with_reducible rfl
            rotate_left
            ·exact pA
            refine take_ (i := 1) (N := some 45) (v := ?_) (a' := ?_) #[true, true, true, false, false, true, false, true, false, false, false, false] rfl rfl (take_ofW HT_.out HW_.out (by kernel_rfl)) (fun _ _ _ h => h) (Or.inl ⟨by kernel_rfl, ?_⟩) hHeld ?_ ?_
            rotate_left
            ·rintro w' ⟨s0, s1, s2, s3, s4, s5, s6, s7, s8, s9, s10, s11, s12, s13, s14, s15⟩
             go_simp
             with_reducible rfl
            rotate_left
            ·exact pA
            refine pure_ (i := 3) (N := some 47) (v := ?_) (a' := ?_) #[true, true, true, true, false, true, false, true, false, false, false, false] rfl rfl (any_of HT_.out (by kernel_rfl)) (fun _ _ _ h => h) (Or.inl ⟨by kernel_rfl, ?_⟩) ?_ ?_
            rotate_left
            ·intro w'
             go_simp
             with_reducible rfl
            rotate_left
            ·exact pA
            refine take_ (i := 4) (N := some 48) (v := ?_) (a' := ?_) #[true, true, true, true, true, true, false, true, false, false, false, false] rfl rfl (take_ofW HT_.out HW_.out (by kernel_rfl)) (fun _ _ _ h => h) (Or.inl ⟨by kernel_rfl, ?_⟩) hHeld ?_ ?_
            rotate_left
            ·rintro w' ⟨s0, s1, s2, s3, s4, s5, s6, s7, s8, s9, s10, s11, s12, s13, s14, s15⟩
             go_simp
             with_reducible rfl
            rotate_left
            ·exact pA
            refine take_ (i := 6) (N := some 50) (v := ?_) (a' := ?_) #[true, true, true, true, true, true, true, true, false, false, false, false] rfl rfl (take_ofW HT_.out HW_.out (by kernel_rfl)) (fun _ _ _ h => h) (Or.inl ⟨by kernel_rfl, ?_⟩) hHeld ?_ ?_
            rotate_left
            ·rintro w' ⟨s0, s1, s2, s3, s4, s5, s6, s7, s8, s9, s10, s11, s12, s13, s14, s15⟩
             go_simp
             with_reducible rfl
            rotate_left
            ·exact pA
            refine pure_ (i := 8) (N := some 52) (v := ?_) (a' := ?_) #[true, true, true, true, true, true, true, true, true, false, false, false] rfl rfl (any_of HT_.out (by kernel_rfl)) (fun _ _ _ h => h) (Or.inl ⟨by kernel_rfl, ?_⟩) ?_ ?_
            rotate_left
            ·intro w'
             go_simp
             with_reducible rfl
            rotate_left
            ·exact pA
            refine take_ (i := 9) (N := some 53) (v := ?_) (a' := ?_) #[true, true, true, true, true, true, true, true, true, true, false, false] rfl rfl (take_ofW HT_.out HW_.out (by kernel_rfl)) (fun _ _ _ h => h) (Or.inl ⟨by kernel_rfl, ?_⟩) hHeld ?_ ?_
            rotate_left
            ·rintro w' ⟨s0, s1, s2, s3, s4, s5, s6, s7, s8, s9, s10, s11, s12, s13, s14, s15⟩
             go_simp
             with_reducible rfl
            rotate_left
            ·exact pA
            refine one_ (i := 10) (N := some 54) #[true, true, true, true, true, true, true, true, true, true, true, false] rfl rfl (one_of HT_.out (by kernel_rfl)) (by decide) (fun K hK => ?_)
            refine goes_ Tryd.func19 (by kernel_rfl) rfl #[.agg #[.int .i64 ((rd_T26 l0_3 x5_1).f0), .int .u64 ((rd_T26 l0_3 x5_1).f1), .string ((rd_T26 l0_3 x5_1).f2), .slice A398_3 ((rd_T26 l0_3 x5_1).f3).length c398_3], .agg #[.int .i64 ((rd_T26 l1_3 x5_1).f0), .int .u64 ((rd_T26 l1_3 x5_1).f1), .string ((rd_T26 l1_3 x5_1).f2), .slice A399_3 ((rd_T26 l1_3 x5_1).f3).length c399_3]] (by rfl) rfl rfl pM ?_
            with_reducible refine (ih k1 (by have := HK1.out; omega) ((rd_T26 l0_3 x5_1).f0) ((rd_T26 l0_3 x5_1).f1) ((rd_T26 l0_3 x5_1).f2) _ _ ((rd_T26 l0_3 x5_1).f3) ((rd_T26 l1_3 x5_1).f0) ((rd_T26 l1_3 x5_1).f1) ((rd_T26 l1_3 x5_1).f2) _ _ ((rd_T26 l1_3 x5_1).f3) true _ ?side1 ?side2 ?side3 ?side4 A26.out).mono ?_
            (case side1 => exact pC (Kd.C_below HR398_3.out HB.out))
            (case side2 => exact HC398_3.out)
            (case side3 => exact pC (Kd.C_below HR399_3.out HB.out))
            (case side4 => exact HC399_3.out)
            rintro e w31 ⟨rfl, hb⟩
            refine ⟨_, rfl, ?_⟩
            have n0_ := Aside0.mk (pkb BK396.out hb)
            have n1_ := Aside0.mk (pkb BK397.out hb)
            have n2_ := Aside0.mk (below_step pB hb)
            clear BK396 BK397 HB; have BK396 := n0_; have BK397 := n1_; have HB := n2_; clear n0_ n1_ n2_; (try clear hb); (try clear hb2); (try clear hk); (try clear hi)
            refine hK.out _ _ ⟨cz0 BK396.out, cz1 BK396.out, cz2 BK396.out, cz3 BK396.out, cz0 BK397.out, cz1 BK397.out, cz2 BK397.out, cz3 BK397.out, ((HB.out.cell (World.block_lt_of_cell? w _ hw398_0)).trans hw398_0), ((HB.out.cell (World.block_lt_of_cell? w _ hw398_1)).trans hw398_1), ((HB.out.cell (World.block_lt_of_cell? w _ hw398_2)).trans hw398_2), ((HB.out.cell (World.block_lt_of_cell? w _ hw398_3)).trans hw398_3), ((HB.out.cell (World.block_lt_of_cell? w _ hw399_0)).trans hw399_0), ((HB.out.cell (World.block_lt_of_cell? w _ hw399_1)).trans hw399_1), ((HB.out.cell (World.block_lt_of_cell? w _ hw399_2)).trans hw399_2), ((HB.out.cell (World.block_lt_of_cell? w _ hw399_3)).trans hw399_3)⟩ (fun hHeld => ?_)
            clear hK K
            refine norm_ (a' := ?_) ?_ ?_
            rotate_left
            ·show Act.put _ (some 54) _ = _
             exact pA
            refine pure_ (i := 11) (N := some 55) (v := ?_) (a' := ?_) #[true, true, true, true, true, true, true, true, true, true, true, true] rfl rfl (any_of HT_.out (by kernel_rfl)) (fun _ _ _ h => h) (Or.inl ⟨by kernel_rfl, ?_⟩) ?_ ?_
            rotate_left
            ·intro w'
             go_simp
             with_reducible rfl
            rotate_left
            ·exact pA
            refine done_ (done_of HT_.out (by kernel_rfl)) ?_
            try go_wp2
            go_roundg k1
            case measure => have := HK1.out; omega
            case rel => exact ⟨(wrap64 (x5_1 + 1)), (by first | rfl | (simp; done) | (simp [*]; done)), H', ⟨by have := HK1.out; omega⟩, ⟨by (with_reducible repeat (first | refine blk_drewN ?_ _ | refine blk_drew ?_ | refine blk_alloc ?_ _)); exact BK396.out⟩, ⟨by (with_reducible repeat (first | refine blk_drewN ?_ _ | refine blk_drew ?_ | refine blk_alloc ?_ _)); exact BK397.out⟩, ⟨pB⟩⟩
           ·replace c27 := Bool.eq_false_iff.mpr c27
            subst c27
            have H1 : (some false) = some r := by rw [if_neg (show ¬ (false = true) by decide)] at H; exact H
            clear H
            have H := H1
            clear H1
            obtain rfl := Option.some.inj H
            have hnb32 := NB396_397.out
            have hnc32 := NB397_396.out
            obtain ⟨hcz33_0, hcz33_1, hcz33_2, hcz33_3, hfz33_0, hfz33_1, hfz33_2, hfz33_3⟩ := cf4 BK396.out
            try go_wp2
            have n0_ := Aside0.mk (blk_drew BK396.out)
            have n1_ := Aside0.mk (blk_drew BK397.out)
            have n2_ := Aside0.mk (below_drew1 HB.out)
            clear BK396 BK397 HB; have BK396 := n0_; have BK397 := n1_; have HB := n2_; clear n0_ n1_ n2_
            have p398 : 0 ≤ (x5_1 : Int) := pD
            have q398 : x5_1 < (l0_3.length : Int) := pD
            obtain ⟨ad398, A398_3, c398_3, e398, hx398_0, hx398_1, hx398_2, hx398_3, hl398_3, hi398_3⟩ := at_T26 HR0_3.out x5_1 p398 q398
            have hw398_3 := hx398_3
            have hw398_2 := hx398_2
            have hw398_1 := hx398_1
            have hw398_0 := hx398_0
            cases e398
            replace hx398_0 := (HB.out.cell (World.block_lt_of_cell? w _ hx398_0)).trans hx398_0
            replace hx398_1 := (HB.out.cell (World.block_lt_of_cell? w _ hx398_1)).trans hx398_1
            replace hx398_2 := (HB.out.cell (World.block_lt_of_cell? w _ hx398_2)).trans hx398_2
            replace hx398_3 := (HB.out.cell (World.block_lt_of_cell? w _ hx398_3)).trans hx398_3
            have HR398_3 := Aside0.mk hi398_3
            have HC398_3 := Aside0.mk hl398_3
            clear hi398_3 hl398_3
            replace p398 := eq_true p398
            replace q398 := eq_true q398
            have p399 : 0 ≤ (x5_1 : Int) := pD
            have q399 : x5_1 < (l1_3.length : Int) := pD
            obtain ⟨ad399, A399_3, c399_3, e399, hx399_0, hx399_1, hx399_2, hx399_3, hl399_3, hi399_3⟩ := at_T26 HR1_3.out x5_1 p399 q399
            have hw399_3 := hx399_3
            have hw399_2 := hx399_2
            have hw399_1 := hx399_1
            have hw399_0 := hx399_0
            cases e399
            replace hx399_0 := (HB.out.cell (World.block_lt_of_cell? w _ hx399_0)).trans hx399_0
            replace hx399_1 := (HB.out.cell (World.block_lt_of_cell? w _ hx399_1)).trans hx399_1
            replace hx399_2 := (HB.out.cell (World.block_lt_of_cell? w _ hx399_2)).trans hx399_2
            replace hx399_3 := (HB.out.cell (World.block_lt_of_cell? w _ hx399_3)).trans hx399_3
            have HR399_3 := Aside0.mk hi399_3
            have HC399_3 := Aside0.mk hl399_3
            clear hi399_3 hl399_3
            replace p399 := eq_true p399
            replace q399 := eq_true q399
            refine start_ (n := 12) (S := fun w' => w'.cell? ⟨gb396, 0, none⟩ = some (.int .i64 a0_0) ∧ w'.cell? ⟨gb396, 1, none⟩ = some (.int .u64 a0_1) ∧ w'.cell? ⟨gb396, 2, none⟩ = some (.string a0_2) ∧ w'.cell? ⟨gb396, 3, none⟩ = some (.slice (some ad398) l0_3.length c0_3) ∧ w'.cell? ⟨gb397, 0, none⟩ = some (.int .i64 a1_0) ∧ w'.cell? ⟨gb397, 1, none⟩ = some (.int .u64 a1_1) ∧ w'.cell? ⟨gb397, 2, none⟩ = some (.string a1_2) ∧ w'.cell? ⟨gb397, 3, none⟩ = some (.slice (some ad399) l1_3.length c1_3) ∧ w'.cell? (ad398.add ((x5_1).toNat * 4)) = some (.int .i64 ((rd_T26 l0_3 x5_1).f0)) ∧ w'.cell? ⟨(ad398.add ((x5_1).toNat * 4)).block, (ad398.add ((x5_1).toNat * 4)).off + 1, none⟩ = some (.int .u64 ((rd_T26 l0_3 x5_1).f1)) ∧ w'.cell? ⟨(ad398.add ((x5_1).toNat * 4)).block, (ad398.add ((x5_1).toNat * 4)).off + 2, none⟩ = some (.string ((rd_T26 l0_3 x5_1).f2)) ∧ w'.cell? ⟨(ad398.add ((x5_1).toNat * 4)).block, (ad398.add ((x5_1).toNat * 4)).off + 3, none⟩ = some (.slice A398_3 ((rd_T26 l0_3 x5_1).f3).length c398_3) ∧ w'.cell? (ad399.add ((x5_1).toNat * 4)) = some (.int .i64 ((rd_T26 l1_3 x5_1).f0)) ∧ w'.cell? ⟨(ad399.add ((x5_1).toNat * 4)).block, (ad399.add ((x5_1).toNat * 4)).off + 1, none⟩ = some (.int .u64 ((rd_T26 l1_3 x5_1).f1)) ∧ w'.cell? ⟨(ad399.add ((x5_1).toNat * 4)).block, (ad399.add ((x5_1).toNat * 4)).off + 2, none⟩ = some (.string ((rd_T26 l1_3 x5_1).f2)) ∧ w'.cell? ⟨(ad399.add ((x5_1).toNat * 4)).block, (ad399.add ((x5_1).toNat * 4)).off + 3, none⟩ = some (.slice A399_3 ((rd_T26 l1_3 x5_1).f3).length c399_3)) (ds := []) #[false, false, false, false, false, false, false, false, false, false, false, false] (by kernel_rfl) rfl rfl ⟨cz0 BK396.out, cz1 BK396.out, cz2 BK396.out, cz3 BK396.out, cz0 BK397.out, cz1 BK397.out, cz2 BK397.out, cz3 BK397.out, ((HB.out.cell (World.block_lt_of_cell? w _ hw398_0)).trans hw398_0), ((HB.out.cell (World.block_lt_of_cell? w _ hw398_1)).trans hw398_1), ((HB.out.cell (World.block_lt_of_cell? w _ hw398_2)).trans hw398_2), ((HB.out.cell (World.block_lt_of_cell? w _ hw398_3)).trans hw398_3), ((HB.out.cell (World.block_lt_of_cell? w _ hw399_0)).trans hw399_0), ((HB.out.cell (World.block_lt_of_cell? w _ hw399_1)).trans hw399_1), ((HB.out.cell (World.block_lt_of_cell? w _ hw399_2)).trans hw399_2), ((HB.out.cell (World.block_lt_of_cell? w _ hw399_3)).trans hw399_3)⟩ (fun hHeld => ?_); refine with_tabW minstrelref07_Same.tab13 minstrelref07_Same.bits13 (fun HT_ HW_ => ?_)
            generalize wr.drew = w34 at BK396 BK397 HB HR398_3 HR399_3 hx398_0 hx398_1 hx398_2 hx398_3 hx399_0 hx399_1 hx399_2 hx399_3 hHeld ⊢
            refine pure_ (i := 0) (N := some 44) (v := ?_) (a' := ?_) #[true, false, false, false, false, false, false, false, false, false, false, false] rfl rfl (any_of HT_.out (by kernel_rfl)) (fun _ _ _ h => h) (Or.inl ⟨by kernel_rfl, ?_⟩) ?_ ?_
            rotate_left
            ·intro w'
             go_simp
             with_reducible rfl
            rotate_left
            ·exact pA
            refine pure_ (i := 2) (N := some 46) (v := ?_) (a' := ?_) #[true, false, true, false, false, false, false, false, false, false, false, false] rfl rfl (any_of HT_.out (by kernel_rfl)) (fun _ _ _ h => h) (Or.inl ⟨by kernel_rfl, ?_⟩) ?_ ?_
            rotate_left
            ·intro w'
             go_simp
             with_reducible rfl
            rotate_left
            ·exact pA
            refine pure_ (i := 5) (N := some 49) (v := ?_) (a' := ?_) #[true, false, true, false, false, true, false, false, false, false, false, false] rfl rfl (any_of HT_.out (by kernel_rfl)) (fun _ _ _ h => h) (Or.inl ⟨by kernel_rfl, ?_⟩) ?_ ?_
            rotate_left
            ·intro w'
             go_simp
             with_reducible rfl
            rotate_left
            ·exact pA
            refine pure_ (i := 7) (N := some 51) (v := ?_) (a' := ?_) #[true, false, true, false, false, true, false, true, false, false, false, false] rfl rfl (any_of HT_.out (by kernel_rfl)) (fun _ _ _ h => h) (Or.inl ⟨by kernel_rfl, ?_⟩) ?_ ?_
            rotate_left
            ·intro w'
             go_simp
             with_reducible rfl
            rotate_left
            ·exact pA
            refine take_ (i := 1) (N := some 45) (v := ?_) (a' := ?_) #[true, true, true, false, false, true, false, true, false, false, false, false] rfl rfl (take_ofW HT_.out HW_.out (by kernel_rfl)) (fun _ _ _ h => h) (Or.inl ⟨by kernel_rfl, ?_⟩) hHeld ?_ ?_
            rotate_left
            ·rintro w' ⟨s0, s1, s2, s3, s4, s5, s6, s7, s8, s9, s10, s11, s12, s13, s14, s15⟩
             go_simp
             with_reducible rfl
            rotate_left
            ·exact pA
            refine pure_ (i := 3) (N := some 47) (v := ?_) (a' := ?_) #[true, true, true, true, false, true, false, true, false, false, false, false] rfl rfl (any_of HT_.out (by kernel_rfl)) (fun _ _ _ h => h) (Or.inl ⟨by kernel_rfl, ?_⟩) ?_ ?_
            rotate_left
            ·intro w'
             go_simp
             with_reducible rfl
            rotate_left
            ·exact pA
            refine take_ (i := 4) (N := some 48) (v := ?_) (a' := ?_) #[true, true, true, true, true, true, false, true, false, false, false, false] rfl rfl (take_ofW HT_.out HW_.out (by kernel_rfl)) (fun _ _ _ h => h) (Or.inl ⟨by kernel_rfl, ?_⟩) hHeld ?_ ?_
            rotate_left
            ·rintro w' ⟨s0, s1, s2, s3, s4, s5, s6, s7, s8, s9, s10, s11, s12, s13, s14, s15⟩
             go_simp
             with_reducible rfl
            rotate_left
            ·exact pA
            refine take_ (i := 6) (N := some 50) (v := ?_) (a' := ?_) #[true, true, true, true, true, true, true, true, false, false, false, false] rfl rfl (take_ofW HT_.out HW_.out (by kernel_rfl)) (fun _ _ _ h => h) (Or.inl ⟨by kernel_rfl, ?_⟩) hHeld ?_ ?_
            rotate_left
            ·rintro w' ⟨s0, s1, s2, s3, s4, s5, s6, s7, s8, s9, s10, s11, s12, s13, s14, s15⟩
             go_simp
             with_reducible rfl
            rotate_left
            ·exact pA
            refine pure_ (i := 8) (N := some 52) (v := ?_) (a' := ?_) #[true, true, true, true, true, true, true, true, true, false, false, false] rfl rfl (any_of HT_.out (by kernel_rfl)) (fun _ _ _ h => h) (Or.inl ⟨by kernel_rfl, ?_⟩) ?_ ?_
            rotate_left
            ·intro w'
             go_simp
             with_reducible rfl
            rotate_left
            ·exact pA
            refine take_ (i := 9) (N := some 53) (v := ?_) (a' := ?_) #[true, true, true, true, true, true, true, true, true, true, false, false] rfl rfl (take_ofW HT_.out HW_.out (by kernel_rfl)) (fun _ _ _ h => h) (Or.inl ⟨by kernel_rfl, ?_⟩) hHeld ?_ ?_
            rotate_left
            ·rintro w' ⟨s0, s1, s2, s3, s4, s5, s6, s7, s8, s9, s10, s11, s12, s13, s14, s15⟩
             go_simp
             with_reducible rfl
            rotate_left
            ·exact pA
            refine one_ (i := 10) (N := some 54) #[true, true, true, true, true, true, true, true, true, true, true, false] rfl rfl (one_of HT_.out (by kernel_rfl)) (by decide) (fun K hK => ?_)
            refine goes_ Tryd.func19 (by kernel_rfl) rfl #[.agg #[.int .i64 ((rd_T26 l0_3 x5_1).f0), .int .u64 ((rd_T26 l0_3 x5_1).f1), .string ((rd_T26 l0_3 x5_1).f2), .slice A398_3 ((rd_T26 l0_3 x5_1).f3).length c398_3], .agg #[.int .i64 ((rd_T26 l1_3 x5_1).f0), .int .u64 ((rd_T26 l1_3 x5_1).f1), .string ((rd_T26 l1_3 x5_1).f2), .slice A399_3 ((rd_T26 l1_3 x5_1).f3).length c399_3]] (by rfl) rfl rfl pM ?_
            with_reducible refine (ih k1 (by have := HK1.out; omega) ((rd_T26 l0_3 x5_1).f0) ((rd_T26 l0_3 x5_1).f1) ((rd_T26 l0_3 x5_1).f2) _ _ ((rd_T26 l0_3 x5_1).f3) ((rd_T26 l1_3 x5_1).f0) ((rd_T26 l1_3 x5_1).f1) ((rd_T26 l1_3 x5_1).f2) _ _ ((rd_T26 l1_3 x5_1).f3) false _ ?side1 ?side2 ?side3 ?side4 A26.out).mono ?_
            (case side1 => exact pC (Kd.C_below HR398_3.out HB.out))
            (case side2 => exact HC398_3.out)
            (case side3 => exact pC (Kd.C_below HR399_3.out HB.out))
            (case side4 => exact HC399_3.out)
            rintro e w35 ⟨rfl, hb⟩
            refine ⟨_, rfl, ?_⟩
            have n0_ := Aside0.mk (pkb BK396.out hb)
            have n1_ := Aside0.mk (pkb BK397.out hb)
            have n2_ := Aside0.mk (below_step pB hb)
            clear BK396 BK397 HB; have BK396 := n0_; have BK397 := n1_; have HB := n2_; clear n0_ n1_ n2_; (try clear hb); (try clear hb2); (try clear hk); (try clear hi)
            refine hK.out _ _ ⟨cz0 BK396.out, cz1 BK396.out, cz2 BK396.out, cz3 BK396.out, cz0 BK397.out, cz1 BK397.out, cz2 BK397.out, cz3 BK397.out, ((HB.out.cell (World.block_lt_of_cell? w _ hw398_0)).trans hw398_0), ((HB.out.cell (World.block_lt_of_cell? w _ hw398_1)).trans hw398_1), ((HB.out.cell (World.block_lt_of_cell? w _ hw398_2)).trans hw398_2), ((HB.out.cell (World.block_lt_of_cell? w _ hw398_3)).trans hw398_3), ((HB.out.cell (World.block_lt_of_cell? w _ hw399_0)).trans hw399_0), ((HB.out.cell (World.block_lt_of_cell? w _ hw399_1)).trans hw399_1), ((HB.out.cell (World.block_lt_of_cell? w _ hw399_2)).trans hw399_2), ((HB.out.cell (World.block_lt_of_cell? w _ hw399_3)).trans hw399_3)⟩ (fun hHeld => ?_)
            clear hK K
            refine norm_ (a' := ?_) ?_ ?_
            rotate_left
            ·show Act.put _ (some 54) _ = _
             exact pA
            refine pure_ (i := 11) (N := some 55) (v := ?_) (a' := ?_) #[true, true, true, true, true, true, true, true, true, true, true, true] rfl rfl (any_of HT_.out (by kernel_rfl)) (fun _ _ _ h => h) (Or.inl ⟨by kernel_rfl, ?_⟩) ?_ ?_
            rotate_left
            ·intro w'
             go_simp
             with_reducible rfl
            rotate_left
            ·exact pA
            refine done_ (done_of HT_.out (by kernel_rfl)) ?_
            try go_wp2
            go_ret
            exact ⟨pE, pB⟩
          ·rw [if_neg c25] at H
           exact absurd H (by simp)
         ·rw [if_neg c24] at H
          exact absurd H (by simp)
        ·rw [if_neg c23] at H
         have c23b0 : decide (x5_1 < (l0_3.length : Int)) = false := decide_eq_false c23
         clear c23
         obtain rfl := Option.some.inj H
         have hnb36 := NB396_397.out
         have hnc36 := NB397_396.out
         obtain ⟨hcz37_0, hcz37_1, hcz37_2, hcz37_3, hfz37_0, hfz37_1, hfz37_2, hfz37_3⟩ := cf4 BK396.out
         go_wp2
         go_ret
         exact ⟨pE, pB⟩
     ·rw [if_neg c17] at H
      have c17b0 : ((l0_3.length : Int) == (l1_3.length : Int)) = false := beq_eq_false_iff_ne.mpr c17
      have c17b1 : ((l0_3.length : Int) != (l1_3.length : Int)) = true := bne_iff_ne.mpr c17
      have c17b2 : (l0_3.length == l1_3.length) = false := by first | simpa using c17 | (simp at c17 ⊢; omega)
      obtain rfl := Option.some.inj H
      go_enter Tryd.func19, Tryd.ntmps19
      go_wp2_with (first | ((with_reducible refine gate_dst (N := 2) rfl ?_); refine box_event ?hg (N := 2) ?hd (cs := #[.int .i64 a0_0, .int .u64 a0_1, .string a0_2, .slice A0_3 l0_3.length c0_3]) (t := 26) ?hr ?_; (case hd => rfl); (case hg => rfl); (case hr => first | (go_simp; done) | (go_simp; rfl)); intro gb396 hg w38 hbox hb; have n0_ := Aside0.mk (below_step pB hb); have n1_ := Aside0.mk (hbox); have n2_ := Aside0.mk ((by rw [hg]; exact (below_size pB) : w.heap.size ≤ gb396)); have n3_ := Aside0.mk ((by rw [hg]; exact (below_size pB) : w.heap.size ≤ gb396)); clear HB; have HB := n0_; have BK396 := n1_; have GW396 := n2_; have GE396 := n3_; clear n0_ n1_ n2_ n3_; clear hb hbox hg) | ((with_reducible refine gate_dst (N := 3) rfl ?_); refine box_event ?hg (N := 3) ?hd (cs := #[.int .i64 a1_0, .int .u64 a1_1, .string a1_2, .slice A1_3 l1_3.length c1_3]) (t := 26) ?hr ?_; (case hd => rfl); (case hg => rfl); (case hr => first | (go_simp; done) | (go_simp; rfl)); intro gb397 hg w39 hbox hb; have n0_ := Aside0.mk (pkb BK396.out hb); have n1_ := Aside0.mk (below_step pB hb); have n2_ := Aside0.mk (hbox); have n3_ := Aside0.mk ((by rw [hg]; exact (below_size pB) : w.heap.size ≤ gb397)); have n4_ := Aside0.mk ((by rw [hg]; exact (below_size pB) : w.heap.size ≤ gb397)); have n5_ := Aside0.mk ((by rw [hg]; exact Nat.ne_of_lt (pkl BK396.out) : gb396 ≠ gb397)); have n6_ := Aside0.mk ((by rw [hg]; exact Nat.ne_of_gt (pkl BK396.out) : gb397 ≠ gb396)); clear BK396; clear HB; have BK396 := n0_; have HB := n1_; have BK397 := n2_; have GW397 := n3_; have GE397 := n4_; have NB396_397 := n5_; have NB397_396 := n6_; clear n0_ n1_ n2_ n3_ n4_ n5_ n6_; clear hb hbox hg; have hnb40 := NB396_397.out; have hnc40 := NB397_396.out; obtain ⟨hcz41_0, hcz41_1, hcz41_2, hcz41_3, hfz41_0, hfz41_1, hfz41_2, hfz41_3⟩ := cf4 BK396.out; obtain ⟨hcz42_0, hcz42_1, hcz42_2, hcz42_3, hfz42_0, hfz42_1, hfz42_2, hfz42_3⟩ := cf4 BK397.out))
      go_ret
      exact ⟨pE, pB⟩
    ·rw [if_neg c16] at H
     have c16b0 : (a0_0 == 2) = false := beq_eq_false_iff_ne.mpr c16
     have c16b1 : (a0_0 != 2) = true := bne_iff_ne.mpr c16
     obtain rfl := Option.some.inj H
     go_enter Tryd.func19, Tryd.ntmps19
     go_wp2_with (first | ((with_reducible refine gate_dst (N := 2) rfl ?_); refine box_event ?hg (N := 2) ?hd (cs := #[.int .i64 a0_0, .int .u64 a0_1, .string a0_2, .slice A0_3 l0_3.length c0_3]) (t := 26) ?hr ?_; (case hd => rfl); (case hg => rfl); (case hr => first | (go_simp; done) | (go_simp; rfl)); intro gb396 hg w43 hbox hb; have n0_ := Aside0.mk (below_step pB hb); have n1_ := Aside0.mk (hbox); have n2_ := Aside0.mk ((by rw [hg]; exact (below_size pB) : w.heap.size ≤ gb396)); have n3_ := Aside0.mk ((by rw [hg]; exact (below_size pB) : w.heap.size ≤ gb396)); clear HB; have HB := n0_; have BK396 := n1_; have GW396 := n2_; have GE396 := n3_; clear n0_ n1_ n2_ n3_; clear hb hbox hg) | ((with_reducible refine gate_dst (N := 3) rfl ?_); refine box_event ?hg (N := 3) ?hd (cs := #[.int .i64 a1_0, .int .u64 a1_1, .string a1_2, .slice A1_3 l1_3.length c1_3]) (t := 26) ?hr ?_; (case hd => rfl); (case hg => rfl); (case hr => first | (go_simp; done) | (go_simp; rfl)); intro gb397 hg w44 hbox hb; have n0_ := Aside0.mk (pkb BK396.out hb); have n1_ := Aside0.mk (below_step pB hb); have n2_ := Aside0.mk (hbox); have n3_ := Aside0.mk ((by rw [hg]; exact (below_size pB) : w.heap.size ≤ gb397)); have n4_ := Aside0.mk ((by rw [hg]; exact (below_size pB) : w.heap.size ≤ gb397)); have n5_ := Aside0.mk ((by rw [hg]; exact Nat.ne_of_lt (pkl BK396.out) : gb396 ≠ gb397)); have n6_ := Aside0.mk ((by rw [hg]; exact Nat.ne_of_gt (pkl BK396.out) : gb397 ≠ gb396)); clear BK396; clear HB; have BK396 := n0_; have HB := n1_; have BK397 := n2_; have GW397 := n3_; have GE397 := n4_; have NB396_397 := n5_; have NB397_396 := n6_; clear n0_ n1_ n2_ n3_ n4_ n5_ n6_; clear hb hbox hg; have hnb45 := NB396_397.out; have hnc45 := NB397_396.out; obtain ⟨hcz46_0, hcz46_1, hcz46_2, hcz46_3, hfz46_0, hfz46_1, hfz46_2, hfz46_3⟩ := cf4 BK396.out; obtain ⟨hcz47_0, hcz47_1, hcz47_2, hcz47_3, hfz47_0, hfz47_1, hfz47_2, hfz47_3⟩ := cf4 BK397.out))
     go_ret
     exact ⟨pE, pB⟩
 ·rw [if_neg c3] at H
  have c3b0 : (a0_0 == a1_0) = false := beq_eq_false_iff_ne.mpr c3
  have c3b1 : (a0_0 != a1_0) = true := bne_iff_ne.mpr c3
  obtain rfl := Option.some.inj H
  go_enter Tryd.func19, Tryd.ntmps19
  go_wp2_with (first | ((with_reducible refine gate_dst (N := 2) rfl ?_); refine box_event ?hg (N := 2) ?hd (cs := #[.int .i64 a0_0, .int .u64 a0_1, .string a0_2, .slice A0_3 l0_3.length c0_3]) (t := 26) ?hr ?_; (case hd => rfl); (case hg => rfl); (case hr => first | (go_simp; done) | (go_simp; rfl)); intro gb396 hg w48 hbox hb; have n0_ := Aside0.mk (below_step pB hb); have n1_ := Aside0.mk (hbox); have n2_ := Aside0.mk ((by rw [hg]; exact (below_size pB) : w.heap.size ≤ gb396)); have n3_ := Aside0.mk ((by rw [hg]; exact (below_size pB) : w.heap.size ≤ gb396)); clear HB; have HB := n0_; have BK396 := n1_; have GW396 := n2_; have GE396 := n3_; clear n0_ n1_ n2_ n3_; clear hb hbox hg) | ((with_reducible refine gate_dst (N := 3) rfl ?_); refine box_event ?hg (N := 3) ?hd (cs := #[.int .i64 a1_0, .int .u64 a1_1, .string a1_2, .slice A1_3 l1_3.length c1_3]) (t := 26) ?hr ?_; (case hd => rfl); (case hg => rfl); (case hr => first | (go_simp; done) | (go_simp; rfl)); intro gb397 hg w49 hbox hb; have n0_ := Aside0.mk (pkb BK396.out hb); have n1_ := Aside0.mk (below_step pB hb); have n2_ := Aside0.mk (hbox); have n3_ := Aside0.mk ((by rw [hg]; exact (below_size pB) : w.heap.size ≤ gb397)); have n4_ := Aside0.mk ((by rw [hg]; exact (below_size pB) : w.heap.size ≤ gb397)); have n5_ := Aside0.mk ((by rw [hg]; exact Nat.ne_of_lt (pkl BK396.out) : gb396 ≠ gb397)); have n6_ := Aside0.mk ((by rw [hg]; exact Nat.ne_of_gt (pkl BK396.out) : gb397 ≠ gb396)); clear BK396; clear HB; have BK396 := n0_; have HB := n1_; have BK397 := n2_; have GW397 := n3_; have GE397 := n4_; have NB396_397 := n5_; have NB397_396 := n6_; clear n0_ n1_ n2_ n3_ n4_ n5_ n6_; clear hb hbox hg; have hnb50 := NB396_397.out; have hnc50 := NB397_396.out; obtain ⟨hcz51_0, hcz51_1, hcz51_2, hcz51_3, hfz51_0, hfz51_1, hfz51_2, hfz51_3⟩ := cf4 BK396.out; obtain ⟨hcz52_0, hcz52_1, hcz52_2, hcz52_3, hfz52_0, hfz52_1, hfz52_2, hfz52_3⟩ := cf4 BK397.out))
  go_ret
  exact ⟨pE, pB⟩
end Go.Proofs.YtlkaffbgekbcfaaDoor.Pr
end
section
namespace Go.Proofs.YtlkaffbgekbcfaaDoor.Pure
open Go.RowKit Go.Proofs.YtlkaffbgekbcfaaDoor.Pr Go.Proofs.YtlkaffbgekbcfaaDoorW.PrintWords Go.Proofs.YtlkaffbgekbcfaaDoorW.PrintLast Go.Proofs.YtlkaffbgekbcfaaDoorW.PrintMore
set_option linter.unusedVariables false
set_option linter.unusedSimpArgs false
def dep : Nat → S26 → Bool
  | 0, _ => false
  | k + 1, c => c.f3.all (dep k)
theorem dep_mono : ∀ (k : Nat) (c : S26), dep k c = true → dep (k + 1) c = true
  | 0, c, h => by simp [dep] at h
  | k + 1, c, h => by
    rw [dep] at h ⊢
    simp only [List.all_eq_true] at h ⊢
    exact fun x hx => dep_mono k x (h x hx)
theorem dep_le {k j : Nat} {c : S26} (h : dep k c = true) (hkj : k ≤ j) : dep j c = true := by
  obtain ⟨d, rfl⟩ := Nat.exists_eq_add_of_le hkj
  clear hkj
  induction d with
  | zero => exact h
  | succ d ih => exact dep_mono _ _ ih
theorem exists_dep (c : S26) : ∃ k, dep k c = true :=
  S26.rec (motive_1 := fun c => ∃ k, dep k c = true) (motive_2 := fun L => ∃ k, L.all (dep k) = true)
    (fun f0 f1 f2 f3 ih => by
      obtain ⟨k, hk⟩ := ih
      exact ⟨k + 1, hk⟩)
    ⟨0, rfl⟩
    (fun x L ih1 ih2 => by
      obtain ⟨k, hk⟩ := ih1
      obtain ⟨j, hj⟩ := ih2
      refine ⟨max k j, ?_⟩
      rw [List.all_cons, Bool.and_eq_true]
      refine ⟨dep_le hk (Nat.le_max_left _ _), ?_⟩
      simp only [List.all_eq_true] at hj ⊢
      exact fun y hy => dep_le (hj y hy) (Nat.le_max_right _ _)) c
def len : Nat → S26 → Prop
  | 0, _ => True
  | k + 1, c => c.f3.length ≤ 9223372036854775807 ∧ ∀ x ∈ c.f3, len k x
end Go.Proofs.YtlkaffbgekbcfaaDoor.Pure
end
section
namespace Go.Proofs.YtlkaffbgekbcfaaDoor.Pure
open Go.RowKit Go.Proofs.YtlkaffbgekbcfaaDoor.Pr Go.Proofs.YtlkaffbgekbcfaaDoorW.PrintWords Go.Proofs.YtlkaffbgekbcfaaDoorW.PrintLast Go.Proofs.YtlkaffbgekbcfaaDoorW.PrintMore
set_option linter.unusedVariables false
set_option linter.unusedSimpArgs false
def lenB : Nat → S26 → Prop
  | 0, _ => True
  | k + 1, c => c.f3.length ≤ 3000 ∧ ∀ x ∈ c.f3, lenB k x
theorem eta26 (c : S26) : (⟨c.f0, c.f1, c.f2, c.f3⟩ : S26) = c := by cases c; rfl
theorem small_loop (K : Nat) (c : S26) (most deep : Int) (hl : c.f3.length ≤ 9223372036854775807) (hm0 : -deep ≤ most) (hm1 : most ≤ 3000) (hd0 : 0 ≤ deep) (hd1 : deep ≤ 100)
    (ih : ∀ x ∈ c.f3, ∀ most deep : Int, -deep ≤ most → most ≤ 3000 → 0 ≤ deep → deep ≤ 101 → ∃ n ok, Ev (fun k => minstrelref07_Small.f k x.f0 x.f1 x.f2 x.f3 most deep) (n, ok) ∧ 1 ≤ n ∧ n ≤ 3000 + (102 - deep) ∧ (1 ≤ most → n ≤ most + (102 - deep)) ∧ (most < 1 → n ≤ 1 + (102 - deep)) ∧ (ok = true → lenB K x)) :
    ∀ (m n : Nat) (x8 : Int), n + m = c.f3.length → (n : Int) + 1 ≤ x8 → (x8 ≤ most ∨ x8 = 1) → (n = 0 ∨ x8 ≤ most) → (∀ x ∈ c.f3.take n, lenB K x) →
      ∃ r ok, Ev (fun k => minstrelref07_Small.l0 k most deep x8 (n : Int) c.f0 c.f1 c.f2 c.f3) (r, ok) ∧ 1 ≤ r ∧ r ≤ 3000 + (102 - deep) ∧ (1 ≤ most → r ≤ most + (102 - deep)) ∧ (most < 1 → r ≤ 1 + (102 - deep)) ∧ (ok = true → lenB (K + 1) c)
  | 0, n, x8, hn, h8, hx, hx0, hall => by
    refine ⟨x8, true, ?_, by omega, by omega, by omega, by omega, fun _ => ⟨by omega, ?_⟩⟩
    · refine Ev.step (f := fun k => some (x8, true)) (fun k => ?_) (Ev.now _)
      rw [minstrelref07_Small.l0, if_neg (by omega)]
    · rwa [List.take_of_length_le (by omega)] at hall
  | m + 1, n, x8, hn, h8, hx, hx0, hall => by
    have hna : n < c.f3.length := by omega
    have hrd : rd_T26 c.f3 (n : Int) = c.f3[n] := rd_at _ n hna
    obtain ⟨p, ok, hp, hp1, hp2, hp3, hp4, hpk⟩ := ih c.f3[n] (List.getElem_mem _) (most - x8) (deep + 1) (by omega) (by omega) (by omega) (by omega)
    have e1 : wrap64 (most - x8) = most - x8 := wrap64_in _ (by omega) (by omega)
    have e2 : wrap64 (deep + 1) = deep + 1 := wrap64_in _ (by omega) (by omega)
    have e3 : wrap64 (x8 + p) = x8 + p := wrap64_in _ (by omega) (by omega)
    have e4 : wrap64 ((n : Int) + 1) = ((n + 1 : Nat) : Int) := wrap64_in _ (by omega) (by omega)
    have E := And.intro e1 (And.intro e2 (And.intro e3 e4))
    replace E := Aside0.mk E
    clear e1 e2 e3 e4
    have hstep : ∀ k, minstrelref07_Small.l0 (k + 1) most deep x8 (n : Int) c.f0 c.f1 c.f2 c.f3 = (minstrelref07_Small.f k (c.f3[n].f0) (c.f3[n].f1) (c.f3[n].f2) (c.f3[n].f3) (most - x8) (deep + 1)).bind fun bt => (if bt.2 = true then (if (wrap64 (x8 + bt.1)) > most then (some (wrap64 (x8 + bt.1), false)) else (minstrelref07_Small.l0 k most deep (wrap64 (x8 + bt.1)) ((n + 1 : Nat) : Int) c.f0 c.f1 c.f2 c.f3)) else (some (wrap64 (x8 + bt.1), false))) := fun k => by
      rw [minstrelref07_Small.l0, if_pos (by omega), if_pos (by omega), hrd, E.out.1, E.out.2.1, E.out.2.2.2]
    cases ok with
    | false =>
      refine ⟨x8 + p, false, Ev.step hstep (Ev.bind hp ?_), by omega, by omega, by omega, by omega, fun h => by cases h⟩
      simp only [Bool.false_eq_true, if_false, E.out.2.2.1]
      exact Ev.now _
    | true =>
      by_cases hgt : x8 + p > most
      · refine ⟨x8 + p, false, Ev.step hstep (Ev.bind hp ?_), by omega, by omega, by omega, by omega, fun h => by cases h⟩
        simp only [if_true, E.out.2.2.1, if_pos hgt]
        exact Ev.now _
      · obtain ⟨r, ok, hr, hrest⟩ := small_loop K c most deep hl hm0 hm1 hd0 hd1 ih m (n + 1) (x8 + p) (by omega) (by omega) (by omega) (by omega) (fun x hx => by
          rw [List.take_succ_eq_append_getElem hna] at hx
          rcases List.mem_append.1 hx with hx | hx
          · exact hall x hx
          · rw [List.mem_singleton.1 hx]; exact hpk rfl)
        refine ⟨r, ok, Ev.step hstep (Ev.bind hp ?_), hrest⟩
        simp only [if_true, E.out.2.2.1, if_neg hgt]
        exact hr
theorem small_ev : ∀ (K : Nat) (c : S26), dep K c = true → (∀ j, wfc j c) → ∀ most deep : Int, -deep ≤ most → most ≤ 3000 → 0 ≤ deep → deep ≤ 101 →
    ∃ n ok, Ev (fun k => minstrelref07_Small.f k c.f0 c.f1 c.f2 c.f3 most deep) (n, ok) ∧ 1 ≤ n ∧ n ≤ 3000 + (102 - deep) ∧ (1 ≤ most → n ≤ most + (102 - deep)) ∧ (most < 1 → n ≤ 1 + (102 - deep)) ∧ (ok = true → lenB K c)
  | 0, c, h, hw, most, deep, h0, h1, h2, h3 => by simp [dep] at h
  | K + 1, c, h, hw, most, deep, h0, h1, h2, h3 => by
    rw [dep] at h
    simp only [List.all_eq_true] at h
    by_cases hd : deep > 100
    · refine ⟨1, false, Ev.step (f := fun k => some (1, false)) (fun k => ?_) (Ev.now _), by omega, by omega, by omega, by omega, fun h => by cases h⟩
      rw [minstrelref07_Small.f, if_pos hd]
    · have hl : c.f3.length ≤ 9223372036854775807 := by
        have := (hw 1).2.2.2.1
        simp only [maxLen] at this
        omega
      obtain ⟨r, ok, hr, hrest⟩ := small_loop K c most deep hl h0 h1 h2 (by omega) (fun x hx most deep => small_ev K x (h x hx) (fun j => (hw (j + 1)).2.2.2.2 x hx) most deep) c.f3.length 0 1 (by omega) (by omega) (.inr rfl) (.inl rfl) (fun x hx => by simp at hx)
      refine ⟨r, ok, Ev.step (fun k => ?_) hr, hrest⟩
      rw [minstrelref07_Small.f, if_neg hd]
      rfl
theorem own_loop (c : S26) (hl : c.f3.length ≤ 3000) (ih : ∀ x ∈ c.f3, Ev (fun k => minstrelref07_Own.f k x.f0 x.f1 x.f2 x.f3) (x.f0, x.f1, x.f2, x.f3)) :
    ∀ (m n : Nat), n + m = c.f3.length → Ev (fun k => minstrelref07_Own.l0 k (c.f3.take n) (n : Int) c.f0 c.f1 c.f2 c.f3) (c.f0, c.f1, c.f2, c.f3)
  | 0, n, hn => by
    refine Ev.step (f := fun k => some (c.f0, c.f1, c.f2, c.f3)) (fun k => ?_) (Ev.now _)
    rw [minstrelref07_Own.l0, if_neg (by omega), List.take_of_length_le (by omega)]
  | m + 1, n, hn => by
    have hna : n < c.f3.length := by omega
    have hrd : rd_T26 c.f3 (n : Int) = c.f3[n] := rd_at _ n hna
    have e4 : wrap64 ((n : Int) + 1) = ((n + 1 : Nat) : Int) := wrap64_in _ (by omega) (by omega)
    refine Ev.step (f := fun k => (minstrelref07_Own.f k (c.f3[n].f0) (c.f3[n].f1) (c.f3[n].f2) (c.f3[n].f3)).bind fun bt => (if (c.f3.take n).length < 2513169434916 then (minstrelref07_Own.l0 k (c.f3.take n ++ [(⟨bt.1, bt.2.1, bt.2.2.1, bt.2.2.2⟩ : S26)]) ((n + 1 : Nat) : Int) c.f0 c.f1 c.f2 c.f3) else (none))) (fun k => ?_) (Ev.bind (ih _ (List.getElem_mem _)) ?_)
    · rw [minstrelref07_Own.l0, if_pos (by omega), if_pos (by omega), hrd, e4]
    · simp only [if_pos (show (c.f3.take n).length < 2513169434916 by rw [List.length_take]; omega)]
      have := own_loop c hl ih m (n + 1) (by omega)
      rw [List.take_succ_eq_append_getElem hna] at this
      rw [eta26]
      exact this
theorem own_ev : ∀ (K : Nat) (c : S26), dep K c = true → lenB K c → Ev (fun k => minstrelref07_Own.f k c.f0 c.f1 c.f2 c.f3) (c.f0, c.f1, c.f2, c.f3)
  | 0, c, h, hl => by simp [dep] at h
  | K + 1, c, h, hl => by
    rw [dep] at h
    simp only [List.all_eq_true] at h
    refine Ev.step (fun k => ?_) (own_loop c hl.1 (fun x hx => own_ev K x (h x hx) (hl.2 x hx)) c.f3.length 0 (by omega))
    rw [minstrelref07_Own.f]
    rfl
theorem foldW_some {g : S26 → List Int → Option (List Int × Int)} : ∀ (L : List S26) (xs : List Int), (∀ x ∈ L, ∀ xs, ∃ r, g x xs = some r) → ∃ r, foldW g L xs = some r
  | [], xs, h => ⟨_, rfl⟩
  | x :: L, xs, h => by
    obtain ⟨r, hr⟩ := h x (List.mem_cons_self ..) xs
    simp only [foldW, hr, Option.bind_some]
    split
    · exact foldW_some L _ (fun y hy => h y (List.mem_cons_of_mem _ hy))
    · exact ⟨_, rfl⟩
theorem wrCell_some : ∀ (K : Nat) (c : S26) (deep : Nat) (xs : List Int), dep K c = true → ∃ r, wrCell K c deep xs = some r
  | 0, c, deep, xs, h => by simp [dep] at h
  | K + 1, c, deep, xs, h => by
    rw [dep] at h
    simp only [List.all_eq_true] at h
    simp only [wrCell]
    repeat' (first | split | exact ⟨_, rfl⟩)
    exact foldW_some _ _ (fun x hx ys => wrCell_some K x (deep + 1) ys (h x hx))
theorem enc_ev {K : Nat} {c : S26} {r : List Int × Int} (h : wrCell K c 0 [] = some r) : Ev (fun k => code_Encode.f k c.f0 c.f1 c.f2 c.f3) (if r.2 = 0 then (r.1, 0) else ([], r.2)) := ⟨K, fun k hk => by
  show code_Encode.f k c.f0 c.f1 c.f2 c.f3 = _
  unfold code_Encode.f
  have h9 := at_rounds (g := fun k => wrCell k c 0 []) (fun k r h => wrCell_mono k c 0 [] r h) hk h
  obtain ⟨c0, c1, c2, c3⟩ := c
  simp only at h9 ⊢
  rw [h9]
  rfl⟩
theorem small_top (c : S26) (hw : ∀ j, wfc j c) : ∃ ok, Ev (fun k => minstrellaw19_small.f k c.f0 c.f1 c.f2 c.f3) ok ∧ (ok = true → ∃ K, dep K c = true ∧ lenB K c) := by
  obtain ⟨K, hK⟩ := exists_dep c
  obtain ⟨n, ok, h1, _, _, _, _, h2⟩ := small_ev K c hK hw 2000 0 (by omega) (by omega) (by omega) (by omega)
  refine ⟨ok, Ev.congr (f := fun k => (minstrelref07_Small.f k c.f0 c.f1 c.f2 c.f3 2000 0).bind fun bt205 => (some bt205.2)) (fun k => ?_) (Ev.bind h1 (Ev.now _)), fun h => ⟨K, hK, h2 h⟩⟩
  unfold minstrellaw19_small.f
  rfl
end Go.Proofs.YtlkaffbgekbcfaaDoor.Pure
end
section
namespace Go.Proofs.YtlkaffbgekbcfaaDoor.Pr
open Go.RowKit Go.Proofs.YtlkaffbgekbcfaaDoorW.PrintWords Go.Proofs.YtlkaffbgekbcfaaDoorW.PrintLast Go.Proofs.YtlkaffbgekbcfaaDoorW.PrintMore
attribute [local go_sem] max2_int min2_int max_two min_two max_three min_three max_four min_four
set_option linter.unusedVariables false
set_option linter.unusedSimpArgs false
def minstrelref07_bytes.l0 : Nat → Int → List Int → Int → Option (List Int)
 | 0, _, _, _ => none
 | k + 1, x0, x5, x6 => if x6 ≥ 0 then (if 0 ≤ (IntKind.u64.wrap (wrap64 (8 * x6))) then (if x5.length < 140737488355328 then (minstrelref07_bytes.l0 k x0 (x5 ++ [(Go.bits .and .u64 (shr .u64 x0 (IntKind.u64.wrap (wrap64 (8 * x6)))) 255) % 256]) (wrap64 (x6 - 1))) else (none)) else (none)) else (some x5)
def minstrelref07_bytes.f (k : Nat) (a0 : Int) (a1 : Int) : Option (List Int) := minstrelref07_bytes.l0 k a0 (([] : List Int)) (wrap64 (a1 - 1))
theorem minstrelref07_bytes.mono_l : ∀ k, (∀ y0 y1 y2, LeO (minstrelref07_bytes.l0 k y0 y1 y2) (minstrelref07_bytes.l0 (k + 1) y0 y1 y2))
 | 0 => fun _ _ _ r h => by simp [minstrelref07_bytes.l0] at h
 | k + 1 => by
  have ih0 := minstrelref07_bytes.mono_l k
  ·intro y0 y1 y2
   unfold minstrelref07_bytes.l0
   repeat' first
   | (with_reducible exact ih0 _ _ _)
   | (with_reducible exact LeO.refl _)
   | (with_reducible exact LeO.none _)
   | (with_reducible refine LeO.ite ?_ ?_)
   | (with_reducible refine LeO.bind ?_ (fun _ => ?_))
   | exact ih0 _ _ _
   | exact LeO.none _
   | refine LeO.ite ?_ ?_
   | refine LeO.bind ?_ (fun _ => ?_)
theorem minstrelref07_bytes.mono : ∀ a0 a1 k, LeO (minstrelref07_bytes.f k a0 a1) (minstrelref07_bytes.f (k + 1) a0 a1) := by
 intro a0 a1 k
 have ih0 := minstrelref07_bytes.mono_l k
 unfold minstrelref07_bytes.f
 repeat' first
   | (with_reducible exact ih0 _ _ _)
   | (with_reducible exact LeO.refl _)
   | (with_reducible exact LeO.none _)
   | (with_reducible refine LeO.ite ?_ ?_)
   | (with_reducible refine LeO.bind ?_ (fun _ => ?_))
   | exact ih0 _ _ _
   | exact LeO.none _
   | refine LeO.ite ?_ ?_
   | refine LeO.bind ?_ (fun _ => ?_)
set_option maxHeartbeats 8000000 in
set_option maxRecDepth 100000 in
theorem minstrelref07_bytes.calls (k : Nat) (a0 : Int) (a1 : Int) (r : List Int) (w : World) (h : minstrelref07_bytes.f k a0 a1 = some r) :
  Calls Tryd.prog 61 #[.int .u64 a0, .int .i64 a1] w fun e w' => ∃ v0_ : Value, e = .returned (v0_) ∧ Kd.R (Kd.int .u8) 5 w' w.heap.size (fun _ => True) v0_ r ∧ Below w.heap.size w w' := by
 have HB := Aside0.mk (Below.refl w.heap.size w)
 have H : (minstrelref07_bytes.l0 k a0 (([] : List Int)) (wrap64 (a1 - 1))) = some r := h
 clear h
 obtain ⟨y265, hy265⟩ : ∃ y_ : List Int, y_ = (([] : List Int)) := ⟨_, rfl⟩
 replace H : (minstrelref07_bytes.l0 k a0 y265 (wrap64 (a1 - 1))) = some r := by first | (rw [hy265]; with_reducible exact H) | (have H2_ := (Option.bind_some _ _).symm.trans H; rw [hy265]; with_reducible exact H2_) | (have H2_ := (Option.bind_some _ _).symm.trans H; with_reducible exact H2_) | with_reducible exact H | (rw [hy265]; exact H) | exact H
 have Ny265 := Aside0.mk hy265
 clear hy265
 have H' := Aside0.mk H
 clear H
 go_enter Tryd.func61, Tryd.ntmps61
 go_wp2_with (first | ((with_reducible refine gate_dst (N := 7) rfl ?_); refine Kd.R_lit (Kd.int .u8) _ 5 ?hg (N := 7) ?hd (xs := ([] : List Int)) (inner := []) (ok := fun _ => True) (okp := fun _ => True) ?hr ?hp (fun _ hk => hk) trivial (Below.refl _ _) (Nat.le_refl _) (by simp) ?_; (case hd => rfl); (case hg => rfl); (case hr => first | (go_simp; done) | (go_simp; rfl)); (case hp => exact (Reps.none _ _)); intro v266 w3 ho4 hb hg_ hnew_; clear hg_ hnew_; (first | rw [← Ny265.out] at ho4 | (simp only [Int.reduceToNat] at ho4; rw [← Ny265.out] at ho4)); have n0_ := Aside0.mk (Kd.R_lower ho4 (below_size pB)); have n1_ := Aside0.mk (below_step pB hb); clear HB; have HO267 := n0_; have HB := n1_; clear n0_ n1_; clear hb ho4))
 go_loopg [5, 6] k (fun kq v5 v6 w' => ∃ (x5_1 : List Int) (x6_1 : Int), v6 = .int .i64 x6_1 ∧ Aside0 (minstrelref07_bytes.l0 kq a0 x5_1 x6_1 = some r) ∧ Aside0 (kq ≤ k) ∧ Aside0 (Kd.R (Kd.int .u8) 5 w' w.heap.size (fun _ => True) v5 x5_1) ∧ Aside0 (Below w.heap.size w w'))
 case atStart => exact ⟨(y265), (wrap64 (a1 - 1)), (by first | rfl | (simp; done) | (simp [*]; done)), H', ⟨Nat.le_refl _⟩, ⟨by (with_reducible repeat (first | apply Kd.R_alloc | apply Kd.R_drewN | apply Kd.R_drew)); exact HO267.out⟩, ⟨pB⟩⟩
 case round =>
  clear H'
  try clear p2
  obtain ⟨x5_1, x6_1, rfl, HA, HK1, HO_5, HB⟩ := hrel
  cases gk with
  | zero => exact absurd HA.out (by simp [minstrelref07_bytes.l0])
  | succ k1 =>
   have H := HA.out
   clear HA
   simp only [minstrelref07_bytes.l0] at H
   by_cases c5 : x6_1 ≥ 0
   ·rw [if_pos c5] at H
    have c5b0 : decide (0 ≤ x6_1) = true := decide_eq_true c5
    clear c5
    obtain ⟨ji6, hji6⟩ : ∃ j_ : Int, (IntKind.u64.wrap (wrap64 (8 * x6_1))) = j_ := ⟨_, rfl⟩
    replace H : (if 0 ≤ (ji6) then (if x5_1.length < 140737488355328 then (minstrelref07_bytes.l0 k1 a0 (x5_1 ++ [(Go.bits .and .u64 (shr .u64 a0 (ji6)) 255) % 256]) (wrap64 (x6_1 - 1))) else (none)) else (none)) = some r := by first | (rw [hji6] at H; exact H) | (simp only [hji6] at H ⊢; exact H)
    by_cases c7 : 0 ≤ (ji6)
    ·rw [if_pos c7] at H
     have c7b0 := eq_true c7
     have c7b1 : decide (0 ≤ (ji6)) = true := decide_eq_true c7
     clear c7
     obtain ⟨ji8, hji8⟩ : ∃ j_ : Int, (shr .u64 a0 (ji6)) = j_ := ⟨_, rfl⟩
     replace H : (if x5_1.length < 140737488355328 then (minstrelref07_bytes.l0 k1 a0 (x5_1 ++ [(Go.bits .and .u64 (ji8) 255) % 256]) (wrap64 (x6_1 - 1))) else (none)) = some r := by first | (rw [hji8] at H; exact H) | (simp only [hji8] at H ⊢; exact H)
     have hji8_ : (a0 / 2 ^ min (ji6).toNat 64) = ji8 := hji8
     have hji8z : (ji6) ≤ 64 → (a0 / 2 ^ (ji6).toNat) = ji8 := shr_small hji8
     by_cases c9 : x5_1.length < 140737488355328
     ·rw [if_pos c9] at H
      have LMc9 := Aside0.mk c9
      clear c9
      obtain ⟨y268, hy268⟩ : ∃ y_ : List Int, y_ = (x5_1 ++ [(Go.bits .and .u64 (ji8) 255) % 256]) := ⟨_, rfl⟩
      replace H : (minstrelref07_bytes.l0 k1 a0 y268 (wrap64 (x6_1 - 1))) = some r := by first | (rw [hy268]; with_reducible exact H) | (have H2_ := (Option.bind_some _ _).symm.trans H; rw [hy268]; with_reducible exact H2_) | (have H2_ := (Option.bind_some _ _).symm.trans H; with_reducible exact H2_) | with_reducible exact H | (rw [hy268]; exact H) | exact H
      have Ny268 := Aside0.mk hy268
      clear hy268
      have H' := Aside0.mk H
      clear H
      go_wp2_with (first | ((with_reducible refine gate_builtin (b := .append) (xs := #[.tmp 14, .tmp 22]) rfl ?_); at_builtin; refine Kd.R_append (Kd.int .u8) (w0 := w) w.heap.size rfl (.tmp 14) (.tmp 22) 31 5 (.int .u8 0) 1 rfl Tryd.underlying31 info5 rfl (by decide) (by omega) u5 x5_1 ((Go.bits .and .u64 (ji8) 255) % 256) [.int .u8 ((Go.bits .and .u64 (ji8) 255) % 256)] (fun _ => True) (fun _ => False) rfl rfl ?aP (fun _ hk => hk.elim) ?aF ?aO ?aB ?aS ?aL ?_; (case aP => exact rfl); (case aB => exact pB); (case aF => exact (fun _ _ => trivial)); (case aO => exact (pR HO_5.out)); (case aS => exact (below_size pB)); (case aL => have := LMc9.out; omega); intro v269 w10 ho hb hg hat; rw [← Ny268.out] at ho; have n0_ := Aside0.mk (hb); have n1_ := Aside0.mk (ho); clear HB; clear HO_5; have HB := n0_; have HO270 := n1_; clear n0_ n1_; clear ho hb hg hat))
      go_roundg k1
      case measure => have := HK1.out; omega
      case rel => exact ⟨(y268), (wrap64 (x6_1 - 1)), (by first | rfl | (simp; done) | (simp [*]; done)), H', ⟨by have := HK1.out; omega⟩, ⟨by (with_reducible repeat (first | apply Kd.R_alloc | apply Kd.R_drewN | apply Kd.R_drew)); exact HO270.out⟩, ⟨pB⟩⟩
     ·rw [if_neg c9] at H
      exact absurd H (by simp)
    ·rw [if_neg c7] at H
     exact absurd H (by simp)
   ·rw [if_neg c5] at H
    have c5b0 : decide (0 ≤ x6_1) = false := decide_eq_false c5
    clear c5
    obtain rfl := Option.some.inj H
    go_wp2
    go_ret
    exact ⟨_, pE, by (with_reducible repeat (first | apply Kd.R_alloc | apply Kd.R_drewN | apply Kd.R_drew)); exact HO_5.out, pB⟩
end Go.Proofs.YtlkaffbgekbcfaaDoor.Pr
end
