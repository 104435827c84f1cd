/- A part of the proof of the law that RowSnapSaves shows: lemmas, and contracts of the calls that it reaches. -/
import Derived.Test.YtlkaffbgekbcfaaDoorProg
import Derived.Below
import Derived.Deep.Draws
import Derived.Deep.AppendLies
import Derived.Maps.AppendAt
import Derived.OwnWalk
import Derived.Laws.BytesArg
import Derived.Laws.MakeOwn
import Derived.Laws.OwnMore
import Derived.Deep.OwnRows
import Derived.Tactics
import Derived.Lib.ConvBytes
import Derived.Laws.Slices
import Derived.WalkKit
import Derived.KernelRfl
import Derived.RowKit3
import Derived.Deep.LoopGhost
import Derived.Deep.QuietTactic
import Derived.BigQuiet
import Derived.WideLaws
import Derived.Deep.DeepCutAuto
import Derived.Deep.CutBlock
import Derived.Deep.RegionHeld3
import Derived.Laws.Rows
import Derived.Lib.AppendStr
import Derived.ArgAppend
import Derived.Laws.IdiomCopy
import Derived.OrdersHeld
import Derived.Laws.BitsLemmas
import Derived.RowKit
import Derived.Test.YtlkaffbgekbcfaaDoorZA0
import Derived.Test.YtlkaffbgekbcfaaDoorZA1
import Derived.Test.YtlkaffbgekbcfaaDoorZA2
section
namespace Go.Proofs.YtlkaffbgekbcfaaDoor.Pr
open Go.RowKit Go.Proofs.YtlkaffbgekbcfaaDoorW.PrintWords Go.Proofs.YtlkaffbgekbcfaaDoorW.PrintLast Go.Proofs.YtlkaffbgekbcfaaDoorW.PrintMore
attribute [local go_sem] max2_int min2_int max_two min_two max_three min_three max_four min_four
set_option linter.unusedVariables false
set_option linter.unusedSimpArgs false
def minstrellaw19_lives.f (k : Nat)  : Option (Bool) := (snap_Save.f k 5 0 (([1, 3] : List Int)) 0 0 (⟨#[]⟩ : ByteArray) ([] : List (S26)) 0 0 (⟨#[]⟩ : ByteArray) ([] : List (S26))).bind fun bt195 => ((snap_Load.f k bt195.1).bind fun bt199 => (if bt195.2 = 0 then (if bt199.2.2.2.2.2.2.2.2.2.2.2 = 0 then (if bt199.1 = 5 then (if (bt199.2.2.1.length : Int) = 2 then ((snap_Members.f k (([1, 3] : List Int))).bind fun t221 => (if t221 = true then ((snap_Members.f k (([3, 1] : List Int))).bind fun t225 => (some (!t225))) else (none))) else (none)) else (none)) else (none)) else (none)))
theorem minstrellaw19_lives.mono : ∀ k, LeO (minstrellaw19_lives.f k ) (minstrellaw19_lives.f (k + 1) ) := by
 intro  k
 unfold minstrellaw19_lives.f
 repeat' first
   | (with_reducible exact snap_Load.mono _ _)
   | (with_reducible exact snap_Members.mono _ _)
   | (with_reducible exact snap_Save.mono _ _ _ _ _ _ _ _ _ _ _ _)
   | (with_reducible exact LeO.refl _)
   | (with_reducible exact LeO.none _)
   | (with_reducible refine LeO.ite ?_ ?_)
   | (with_reducible refine LeO.bind ?_ (fun _ => ?_))
   | exact snap_Load.mono _ _
   | exact snap_Members.mono _ _
   | exact snap_Save.mono _ _ _ _ _ _ _ _ _ _ _ _
   | exact LeO.none _
   | refine LeO.ite ?_ ?_
   | refine LeO.bind ?_ (fun _ => ?_)
set_option maxHeartbeats 8000000 in
set_option maxRecDepth 100000 in
theorem minstrellaw19_lives.calls (k : Nat)  (r : Bool) (w : World) (hG : QuarterLaid w) (h : minstrellaw19_lives.f k  = some r) :
  Calls Tryd.prog 8 #[] w fun e w' => e = .returned (.bool r) ∧ Below w.heap.size w w' := by
 have hu28 := Tryd.underlying28
 have HG := Aside0.mk hG
 clear hG
 have HB := Aside0.mk (Below.refl w.heap.size w)
 have H : ((snap_Save.f k 5 0 (([1, 3] : List Int)) 0 0 (⟨#[]⟩ : ByteArray) ([] : List (S26)) 0 0 (⟨#[]⟩ : ByteArray) ([] : List (S26))).bind fun bt195 => ((snap_Load.f k bt195.1).bind fun bt199 => (if bt195.2 = 0 then (if bt199.2.2.2.2.2.2.2.2.2.2.2 = 0 then (if bt199.1 = 5 then (if (bt199.2.2.1.length : Int) = 2 then ((snap_Members.f k (([1, 3] : List Int))).bind fun t221 => (if t221 = true then ((snap_Members.f k (([3, 1] : List Int))).bind fun t225 => (some (!t225))) else (none))) else (none)) else (none)) else (none)) else (none)))) = some r := h
 clear h
 obtain ⟨y192, hy192⟩ : ∃ y_ : List Int, y_ = (([1, 3] : List Int)) := ⟨_, rfl⟩
 replace H : ((snap_Save.f k 5 0 y192 0 0 (⟨#[]⟩ : ByteArray) ([] : List (S26)) 0 0 (⟨#[]⟩ : ByteArray) ([] : List (S26))).bind fun bt195 => ((snap_Load.f k bt195.1).bind fun bt199 => (if bt195.2 = 0 then (if bt199.2.2.2.2.2.2.2.2.2.2.2 = 0 then (if bt199.1 = 5 then (if (bt199.2.2.1.length : Int) = 2 then ((snap_Members.f k (([1, 3] : List Int))).bind fun t221 => (if t221 = true then ((snap_Members.f k (([3, 1] : List Int))).bind fun t225 => (some (!t225))) else (none))) else (none)) else (none)) else (none)) else (none)))) = some r := by first | (rw [hy192]; with_reducible exact H) | (have H2_ := (Option.bind_some _ _).symm.trans H; rw [hy192]; with_reducible exact H2_) | (have H2_ := (Option.bind_some _ _).symm.trans H; with_reducible exact H2_) | with_reducible exact H | (rw [hy192]; exact H) | exact H
 have Ny192 := Aside0.mk hy192
 clear hy192
 replace H := Option.bind_eq_some_iff.mp H
 obtain ⟨⟨t195, t198⟩, A10, H⟩ := H
 replace H : ((snap_Load.f k t195).bind fun bt199 => (if t198 = 0 then (if bt199.2.2.2.2.2.2.2.2.2.2.2 = 0 then (if bt199.1 = 5 then (if (bt199.2.2.1.length : Int) = 2 then ((snap_Members.f k (([1, 3] : List Int))).bind fun t221 => (if t221 = true then ((snap_Members.f k (([3, 1] : List Int))).bind fun t225 => (some (!t225))) else (none))) else (none)) else (none)) else (none)) else (none))) = some r := H
 have A1 := Aside0.mk A10
 clear A10
 replace H := Option.bind_eq_some_iff.mp H
 obtain ⟨⟨t199, t200, t201, t204, t205, t206, t207, t210, t211, t212, t213, t216⟩, A20, H⟩ := H
 replace H : (if t198 = 0 then (if t216 = 0 then (if t199 = 5 then (if (t201.length : Int) = 2 then ((snap_Members.f k (([1, 3] : List Int))).bind fun t221 => (if t221 = true then ((snap_Members.f k (([3, 1] : List Int))).bind fun t225 => (some (!t225))) else (none))) else (none)) else (none)) else (none)) else (none)) = some r := H
 have A2 := Aside0.mk A20
 clear A20
 by_cases c3 : t198 = 0
 ·rw [if_pos c3] at H
  have c3b0 : (t198 == 0) = true := beq_iff_eq.mpr c3
  have c3b1 : (t198 != 0) = false := bne_eq_false_iff_eq.mpr c3
  clear c3
  by_cases c4 : t216 = 0
  ·rw [if_pos c4] at H
   have c4b0 : (t216 == 0) = true := beq_iff_eq.mpr c4
   have c4b1 : (t216 != 0) = false := bne_eq_false_iff_eq.mpr c4
   clear c4
   by_cases c5 : t199 = 5
   ·rw [if_pos c5] at H
    have c5b0 : (t199 == 5) = true := beq_iff_eq.mpr c5
    have c5b1 : (t199 != 5) = false := bne_eq_false_iff_eq.mpr c5
    clear c5
    by_cases c6 : (t201.length : Int) = 2
    ·rw [if_pos c6] at H
     have c6b0 : ((t201.length : Int) == 2) = true := beq_iff_eq.mpr c6
     have c6b1 : ((t201.length : Int) != 2) = false := bne_eq_false_iff_eq.mpr c6
     clear c6
     obtain ⟨y218, hy218⟩ : ∃ y_ : List Int, y_ = (([1, 3] : List Int)) := ⟨_, rfl⟩
     replace H : ((snap_Members.f k y218).bind fun t221 => (if t221 = true then ((snap_Members.f k (([3, 1] : List Int))).bind fun t225 => (some (!t225))) else (none))) = some r := by first | (rw [hy218]; with_reducible exact H) | (have H2_ := (Option.bind_some _ _).symm.trans H; rw [hy218]; with_reducible exact H2_) | (have H2_ := (Option.bind_some _ _).symm.trans H; with_reducible exact H2_) | with_reducible exact H | (rw [hy218]; exact H) | exact H
     have Ny218 := Aside0.mk hy218
     clear hy218
     replace H := Option.bind_eq_some_iff.mp H
     obtain ⟨t221, A70, H⟩ := H
     replace H : (if t221 = true then ((snap_Members.f k (([3, 1] : List Int))).bind fun t225 => (some (!t225))) else (none)) = some r := H
     have A7 := Aside0.mk A70
     clear A70
     by_cases c8 : t221 = true
     ·subst c8
      have H1 : ((snap_Members.f k (([3, 1] : List Int))).bind fun t225 => (some (!t225))) = some r := by rw [if_pos rfl] at H; exact H
      clear H
      have H := H1
      clear H1
      obtain ⟨y222, hy222⟩ : ∃ y_ : List Int, y_ = (([3, 1] : List Int)) := ⟨_, rfl⟩
      replace H : ((snap_Members.f k y222).bind fun t225 => (some (!t225))) = some r := by first | (rw [hy222]; with_reducible exact H) | (have H2_ := (Option.bind_some _ _).symm.trans H; rw [hy222]; with_reducible exact H2_) | (have H2_ := (Option.bind_some _ _).symm.trans H; with_reducible exact H2_) | with_reducible exact H | (rw [hy222]; exact H) | exact H
      have Ny222 := Aside0.mk hy222
      clear hy222
      replace H := Option.bind_eq_some_iff.mp H
      obtain ⟨t225, A90, H⟩ := H
      replace H : (some (!t225)) = some r := H
      have A9 := Aside0.mk A90
      clear A90
      obtain rfl := Option.some.inj H
      go_enter Tryd.func8, Tryd.ntmps8
      go_wp2_with (first | ((with_reducible refine gate_dst (N := 6) rfl ?_); (try (refine gate_guard (by rfl) ?_; dsimp only)); refine Kd.R_lit (Kd.int .i64) _ 3 ?hg (N := 6) ?hd (xs := ([1, 3] : List Int)) (inner := [.int .i64 1, .int .i64 3]) (ok := fun _ => True) (okp := fun _ => True) ?hr ?hp (fun _ hk => hk) trivial (Below.refl _ _) (Nat.le_refl _) (by simp) ?_; (case hd => rfl); (case hg => rfl); (case hr => first | (go_simp; done) | (go_simp; rfl)); (case hp => exact (Reps.one (show Kd.M (Kd.int .i64) _ _ _ 1 [.int .i64 1] from rfl) (Reps.one (show Kd.M (Kd.int .i64) _ _ _ 3 [.int .i64 3] from rfl) (Reps.none _ _)))); intro v193 w10 ho11 hb hg_ hnew_; clear hg_ hnew_; (first | rw [← Ny192.out] at ho11 | (simp only [Int.reduceToNat] at ho11; rw [← Ny192.out] at ho11)); have n0_ := Aside0.mk (Kd.R_lower ho11 (below_size pB)); have n1_ := Aside0.mk (below_step pB hb); clear HB; have HO194 := n0_; have HB := n1_; clear n0_ n1_; clear hb ho11; obtain ⟨Ao12, co12, eo12⟩ := Kd.R_slice HO194.out; subst eo12) | ((with_reducible refine gate_callee (f := 9) rfl ?_); refine goesL_ (some 8) rfl rfl Tryd.func9 (by kernel_rfl) rfl #[.agg #[.int .u64 5, .int .u64 0, .slice Ao12 y192.length co12, .int .i64 0, .int .u64 0, .string (⟨#[]⟩ : ByteArray), .slice none 0 0, .int .i64 0, .int .u64 0, .string (⟨#[]⟩ : ByteArray), .slice none 0 0]] rfl pM ?_; (refine (snap_Save.calls k 5 0 _ _ y192 0 0 (⟨#[]⟩ : ByteArray) (fun k_ => False) _ _ ([] : List (S26)) 0 0 (⟨#[]⟩ : ByteArray) (fun k_ => False) _ _ ([] : List (S26)) t195 t198 _ ?side1 ?side2 ?side3 ?side4 ?side5 A1.out).mono ?_); (case side1 => repeat (first | exact (Kd.R_reads' HO194.out).2.2 | (with_reducible refine Kd.C_alloc ?_ _) | (with_reducible refine Kd.C_drewN ?_ _) | (with_reducible refine Kd.C_drew ?_))); (case side2 => exact (Kd.R_reads' HO194.out).2.1); (case side3 => exact Kd.V_nil _ _ _ _ _); (case side4 => exact Kd.V_nil _ _ _ _ _); (case side5 => first | exact HG.out | exact globDrewN HG.out _ | exact globBelow HG.out pB | (repeat (first | exact HG.out | apply globDrewN | apply globDrew))); rintro e w13 ⟨v196, rfl, ho0, hb⟩; refine ⟨_, rfl, ?_⟩; have n0_ := Aside0.mk (Kd.R_below (pR HO194.out) hb); have n1_ := Aside0.mk (Kd.R_lower (Kd.R_mono (ok' := fun k_ => True) ho0 (fun _ hk_ => trivial)) (below_size pB)); have n2_ := Aside0.mk (below_step pB hb); clear HO194; clear HB; have HO194 := n0_; have HO197 := n1_; have HB := n2_; clear n0_ n1_ n2_; (try clear hb); (try clear hb2); (try clear hk); (try clear hi); (try clear ho0); obtain ⟨Ao14, co14, eo14⟩ := Kd.R_slice HO197.out; subst eo14) | ((with_reducible refine gate_callee (f := 14) rfl ?_); refine goesL_ (some 13) rfl rfl Tryd.func14 (by kernel_rfl) rfl #[.slice Ao14 t195.length co14] rfl pM ?_; (with_reducible refine (snap_Load.calls k _ _ t195 t199 t200 t201 t204 t205 t206 t207 t210 t211 t212 t213 t216 _ ?side1 ?side2 ?side3 A2.out).mono ?_); (case side1 => repeat (first | exact (Kd.R_reads' HO197.out).2.2 | (with_reducible refine Kd.C_alloc ?_ _) | (with_reducible refine Kd.C_drewN ?_ _) | (with_reducible refine Kd.C_drew ?_))); (case side2 => exact (Kd.R_reads' HO197.out).2.1); (case side3 => first | exact HG.out | exact globDrewN HG.out _ | exact globBelow HG.out pB | (repeat (first | exact HG.out | apply globDrewN | apply globDrew))); rintro e w15 ⟨v202, v208, v214, rfl, ho0, ho1, ho2, hb⟩; refine ⟨_, rfl, ?_⟩; have n0_ := Aside0.mk (Kd.R_elder' (pR HO194.out) (Kd.R_base ho0) hb); have n1_ := Aside0.mk (Kd.R_below (pR HO197.out) hb); have n2_ := Aside0.mk (Kd.R_lower (Kd.R_new' (Kd.R_mono (ok' := fun k_ => True) ho0 (fun _ hk_ => trivial)) (Kd.R_lt (pR HO194.out))) (below_size pB)); have n3_ := Aside0.mk (Kd.V_lower (Kd.V_mono (ok' := fun k_ => some k_ ≠ (v202 : Value).ownBlock ∧ some k_ ≠ (.slice Ao12 y192.length co12 : Value).ownBlock ∧ some k_ ≠ (.slice Ao14 t195.length co14 : Value).ownBlock) ho1 (fun k_ hk_ => ⟨hk_.2, (Kd.fresh' (Kd.R_lt (pR HO194.out)) k_ hk_.1), (Kd.fresh' (Kd.R_lt (pR HO197.out)) k_ hk_.1)⟩)) (below_size pB)); have n4_ := Aside0.mk (Kd.V_lower (Kd.V_mono (ok' := fun k_ => some k_ ≠ (v202 : Value).ownBlock ∧ some k_ ≠ (.slice Ao12 y192.length co12 : Value).ownBlock ∧ some k_ ≠ (.slice Ao14 t195.length co14 : Value).ownBlock) ho2 (fun k_ hk_ => ⟨hk_.2, (Kd.fresh' (Kd.R_lt (pR HO194.out)) k_ hk_.1), (Kd.fresh' (Kd.R_lt (pR HO197.out)) k_ hk_.1)⟩)) (below_size pB)); have n5_ := Aside0.mk (below_step pB hb); clear HO194; clear HO197; clear HB; have HO194 := n0_; have HO197 := n1_; have HO203 := n2_; have HO209 := n3_; have HO215 := n4_; have HB := n5_; clear n0_ n1_ n2_ n3_ n4_ n5_; (try clear hb); (try clear hb2); (try clear hk); (try clear hi); (try clear ho0); (try clear ho1); (try clear ho2)) | ((with_reducible refine gate_dst (N := 3) rfl ?_); (try (refine gate_guard (by rfl) ?_; dsimp only)); refine box_event ?hg (N := 3) ?hd (cs := #[.int .u64 0, .int .u64 0, .slice none 0 0, .int .i64 0, .int .u64 0, .string (⟨#[]⟩ : ByteArray), .slice none 0 0, .int .i64 0, .int .u64 0, .string (⟨#[]⟩ : ByteArray), .slice none 0 0]) (t := 28) ?hr ?_; (case hd => rfl); (case hg => rfl); (case hr => first | (go_simp; done) | (go_simp; rfl)); intro gb217 hg w16 hbox hb; have n0_ := Aside0.mk (Kd.R_below (pR HO194.out) hb); have n1_ := Aside0.mk (Kd.R_below (pR HO197.out) hb); have n2_ := Aside0.mk (Kd.R_below (pR HO203.out) hb); have n3_ := Aside0.mk (Kd.V_below (Kd.V_elderB (pV HO209.out) gb217 (Nat.le_of_eq hg.symm)) hb); have n4_ := Aside0.mk (Kd.V_below (Kd.V_elderB (pV HO215.out) gb217 (Nat.le_of_eq hg.symm)) hb); have n5_ := Aside0.mk (below_step pB hb); have n6_ := Aside0.mk (hbox); have n7_ := Aside0.mk ((by rw [hg]; exact (below_size pB) : w.heap.size ≤ gb217)); have n8_ := Aside0.mk ((by rw [hg]; exact (below_size pB) : w.heap.size ≤ gb217)); clear HO194; clear HO197; clear HO203; clear HO209; clear HO215; clear HB; have HO194 := n0_; have HO197 := n1_; have HO203 := n2_; have HO209 := n3_; have HO215 := n4_; have HB := n5_; have BK217 := n6_; have GW217 := n7_; have GE217 := n8_; clear n0_ n1_ n2_ n3_ n4_ n5_ n6_ n7_ n8_; clear hb hbox hg; obtain ⟨hcz17_0, hcz17_1, hcz17_2, hcz17_3, hcz17_4, hcz17_5, hcz17_6, hcz17_7, hcz17_8, hcz17_9, hcz17_10, hfz17_0, hfz17_1, hfz17_2, hfz17_3, hfz17_4, hfz17_5, hfz17_6, hfz17_7, hfz17_8, hfz17_9, hfz17_10⟩ := cf11 BK217.out; obtain ⟨Ao18, co18, eo18⟩ := Kd.R_slice HO203.out; subst eo18; obtain ⟨Ao19, co19, eo19⟩ := Kd.V_slice HO209.out; subst eo19; obtain ⟨Ao20, co20, eo20⟩ := Kd.V_slice HO215.out; subst eo20) | ((with_reducible refine gate_dst (N := 34) rfl ?_); (try (refine gate_guard (by rfl) ?_; dsimp only)); refine Kd.R_lit (Kd.int .i64) _ 3 ?hg (N := 34) ?hd (xs := ([1, 3] : List Int)) (inner := [.int .i64 1, .int .i64 3]) (ok := fun _ => True) (okp := fun _ => True) ?hr ?hp (fun _ hk => hk) trivial (Below.refl _ _) (Nat.le_refl _) (by simp) ?_; (case hd => rfl); (case hg => rfl); (case hr => first | (go_simp; done) | (go_simp; rfl)); (case hp => exact (Reps.one (show Kd.M (Kd.int .i64) _ _ _ 1 [.int .i64 1] from rfl) (Reps.one (show Kd.M (Kd.int .i64) _ _ _ 3 [.int .i64 3] from rfl) (Reps.none _ _)))); intro v219 w21 ho22 hb hg_ hnew_; clear hg_ hnew_; (first | rw [← Ny218.out] at ho22 | (simp only [Int.reduceToNat] at ho22; rw [← Ny218.out] at ho22)); have n0_ := Aside0.mk (Kd.R_elder' (by (with_reducible repeat (first | apply Kd.R_alloc | apply Kd.R_drewN | apply Kd.R_drew)); exact (Kd.R_mono (Kd.R_far (p := ⟨gb217, 10, none⟩) (Kd.R_far (p := ⟨gb217, 9, none⟩) (Kd.R_far (p := ⟨gb217, 8, none⟩) (Kd.R_far (p := ⟨gb217, 7, none⟩) (Kd.R_far (p := ⟨gb217, 6, none⟩) (Kd.R_far (p := ⟨gb217, 5, none⟩) (Kd.R_far (p := ⟨gb217, 4, none⟩) (Kd.R_far (p := ⟨gb217, 3, none⟩) (Kd.R_far (p := ⟨gb217, 2, none⟩) (Kd.R_far (p := ⟨gb217, 1, none⟩) (Kd.R_far (p := ⟨gb217, 0, none⟩) (Kd.R_types HO194.out BK217.out (by decide)) (fun _ hk => hk.2) (.int .u64 t199)) (fun _ hk => hk.2) (.int .u64 t200)) (fun _ hk => hk.2) (.slice Ao18 t201.length co18)) (fun _ hk => hk.2) (.int .i64 t204)) (fun _ hk => hk.2) (.int .u64 t205)) (fun _ hk => hk.2) (.string t206)) (fun _ hk => hk.2) (.slice Ao19 t207.length co19)) (fun _ hk => hk.2) (.int .i64 t210)) (fun _ hk => hk.2) (.int .u64 t211)) (fun _ hk => hk.2) (.string t212)) (fun _ hk => hk.2) (.slice Ao20 t213.length co20)) (fun _ h_ => h_.1))) (Kd.R_base ho22) hb); have n1_ := Aside0.mk (Kd.R_below (by (with_reducible repeat (first | apply Kd.R_alloc | apply Kd.R_drewN | apply Kd.R_drew)); exact (Kd.R_mono (Kd.R_far (p := ⟨gb217, 10, none⟩) (Kd.R_far (p := ⟨gb217, 9, none⟩) (Kd.R_far (p := ⟨gb217, 8, none⟩) (Kd.R_far (p := ⟨gb217, 7, none⟩) (Kd.R_far (p := ⟨gb217, 6, none⟩) (Kd.R_far (p := ⟨gb217, 5, none⟩) (Kd.R_far (p := ⟨gb217, 4, none⟩) (Kd.R_far (p := ⟨gb217, 3, none⟩) (Kd.R_far (p := ⟨gb217, 2, none⟩) (Kd.R_far (p := ⟨gb217, 1, none⟩) (Kd.R_far (p := ⟨gb217, 0, none⟩) (Kd.R_types HO197.out BK217.out (by decide)) (fun _ hk => hk.2) (.int .u64 t199)) (fun _ hk => hk.2) (.int .u64 t200)) (fun _ hk => hk.2) (.slice Ao18 t201.length co18)) (fun _ hk => hk.2) (.int .i64 t204)) (fun _ hk => hk.2) (.int .u64 t205)) (fun _ hk => hk.2) (.string t206)) (fun _ hk => hk.2) (.slice Ao19 t207.length co19)) (fun _ hk => hk.2) (.int .i64 t210)) (fun _ hk => hk.2) (.int .u64 t211)) (fun _ hk => hk.2) (.string t212)) (fun _ hk => hk.2) (.slice Ao20 t213.length co20)) (fun _ h_ => h_.1))) hb); have n2_ := Aside0.mk (Kd.R_elder' (by (with_reducible repeat (first | apply Kd.R_alloc | apply Kd.R_drewN | apply Kd.R_drew)); exact (Kd.R_mono (Kd.R_far (p := ⟨gb217, 10, none⟩) (Kd.R_far (p := ⟨gb217, 9, none⟩) (Kd.R_far (p := ⟨gb217, 8, none⟩) (Kd.R_far (p := ⟨gb217, 7, none⟩) (Kd.R_far (p := ⟨gb217, 6, none⟩) (Kd.R_far (p := ⟨gb217, 5, none⟩) (Kd.R_far (p := ⟨gb217, 4, none⟩) (Kd.R_far (p := ⟨gb217, 3, none⟩) (Kd.R_far (p := ⟨gb217, 2, none⟩) (Kd.R_far (p := ⟨gb217, 1, none⟩) (Kd.R_far (p := ⟨gb217, 0, none⟩) (Kd.R_types HO203.out BK217.out (by decide)) (fun _ hk => hk.2) (.int .u64 t199)) (fun _ hk => hk.2) (.int .u64 t200)) (fun _ hk => hk.2) (.slice Ao18 t201.length co18)) (fun _ hk => hk.2) (.int .i64 t204)) (fun _ hk => hk.2) (.int .u64 t205)) (fun _ hk => hk.2) (.string t206)) (fun _ hk => hk.2) (.slice Ao19 t207.length co19)) (fun _ hk => hk.2) (.int .i64 t210)) (fun _ hk => hk.2) (.int .u64 t211)) (fun _ hk => hk.2) (.string t212)) (fun _ hk => hk.2) (.slice Ao20 t213.length co20)) (fun _ h_ => h_.1))) (Kd.R_base ho22) hb); have n3_ := Aside0.mk (Kd.V_elder' (by (with_reducible repeat (first | apply Kd.V_alloc | apply Kd.V_drewN | apply Kd.V_drew)); exact (Kd.V_mono (Kd.V_far (p := ⟨gb217, 10, none⟩) (Kd.V_far (p := ⟨gb217, 9, none⟩) (Kd.V_far (p := ⟨gb217, 8, none⟩) (Kd.V_far (p := ⟨gb217, 7, none⟩) (Kd.V_far (p := ⟨gb217, 6, none⟩) (Kd.V_far (p := ⟨gb217, 5, none⟩) (Kd.V_far (p := ⟨gb217, 4, none⟩) (Kd.V_far (p := ⟨gb217, 3, none⟩) (Kd.V_far (p := ⟨gb217, 2, none⟩) (Kd.V_far (p := ⟨gb217, 1, none⟩) (Kd.V_far (p := ⟨gb217, 0, none⟩) (Kd.V_mono HO209.out (fun k_ hk => (⟨hk, hk.2⟩ : _ ∧ k_ ≠ gb217))) (fun _ hk => hk.2) (.int .u64 t199)) (fun _ hk => hk.2) (.int .u64 t200)) (fun _ hk => hk.2) (.slice Ao18 t201.length co18)) (fun _ hk => hk.2) (.int .i64 t204)) (fun _ hk => hk.2) (.int .u64 t205)) (fun _ hk => hk.2) (.string t206)) (fun _ hk => hk.2) (.slice Ao19 t207.length co19)) (fun _ hk => hk.2) (.int .i64 t210)) (fun _ hk => hk.2) (.int .u64 t211)) (fun _ hk => hk.2) (.string t212)) (fun _ hk => hk.2) (.slice Ao20 t213.length co20)) (fun _ h_ => h_.1))) (Kd.R_base ho22) hb); have n4_ := Aside0.mk (Kd.V_elder' (by (with_reducible repeat (first | apply Kd.V_alloc | apply Kd.V_drewN | apply Kd.V_drew)); exact (Kd.V_mono (Kd.V_far (p := ⟨gb217, 10, none⟩) (Kd.V_far (p := ⟨gb217, 9, none⟩) (Kd.V_far (p := ⟨gb217, 8, none⟩) (Kd.V_far (p := ⟨gb217, 7, none⟩) (Kd.V_far (p := ⟨gb217, 6, none⟩) (Kd.V_far (p := ⟨gb217, 5, none⟩) (Kd.V_far (p := ⟨gb217, 4, none⟩) (Kd.V_far (p := ⟨gb217, 3, none⟩) (Kd.V_far (p := ⟨gb217, 2, none⟩) (Kd.V_far (p := ⟨gb217, 1, none⟩) (Kd.V_far (p := ⟨gb217, 0, none⟩) (Kd.V_mono HO215.out (fun k_ hk => (⟨hk, hk.2⟩ : _ ∧ k_ ≠ gb217))) (fun _ hk => hk.2) (.int .u64 t199)) (fun _ hk => hk.2) (.int .u64 t200)) (fun _ hk => hk.2) (.slice Ao18 t201.length co18)) (fun _ hk => hk.2) (.int .i64 t204)) (fun _ hk => hk.2) (.int .u64 t205)) (fun _ hk => hk.2) (.string t206)) (fun _ hk => hk.2) (.slice Ao19 t207.length co19)) (fun _ hk => hk.2) (.int .i64 t210)) (fun _ hk => hk.2) (.int .u64 t211)) (fun _ hk => hk.2) (.string t212)) (fun _ hk => hk.2) (.slice Ao20 t213.length co20)) (fun _ h_ => h_.1))) (Kd.R_base ho22) hb); have n5_ := Aside0.mk (Kd.R_lower (Kd.R_new' (Kd.R_new' ho22 (Kd.R_lt (by (with_reducible repeat (first | apply Kd.R_alloc | apply Kd.R_drewN | apply Kd.R_drew)); exact (Kd.R_mono (Kd.R_far (p := ⟨gb217, 10, none⟩) (Kd.R_far (p := ⟨gb217, 9, none⟩) (Kd.R_far (p := ⟨gb217, 8, none⟩) (Kd.R_far (p := ⟨gb217, 7, none⟩) (Kd.R_far (p := ⟨gb217, 6, none⟩) (Kd.R_far (p := ⟨gb217, 5, none⟩) (Kd.R_far (p := ⟨gb217, 4, none⟩) (Kd.R_far (p := ⟨gb217, 3, none⟩) (Kd.R_far (p := ⟨gb217, 2, none⟩) (Kd.R_far (p := ⟨gb217, 1, none⟩) (Kd.R_far (p := ⟨gb217, 0, none⟩) (Kd.R_types HO194.out BK217.out (by decide)) (fun _ hk => hk.2) (.int .u64 t199)) (fun _ hk => hk.2) (.int .u64 t200)) (fun _ hk => hk.2) (.slice Ao18 t201.length co18)) (fun _ hk => hk.2) (.int .i64 t204)) (fun _ hk => hk.2) (.int .u64 t205)) (fun _ hk => hk.2) (.string t206)) (fun _ hk => hk.2) (.slice Ao19 t207.length co19)) (fun _ hk => hk.2) (.int .i64 t210)) (fun _ hk => hk.2) (.int .u64 t211)) (fun _ hk => hk.2) (.string t212)) (fun _ hk => hk.2) (.slice Ao20 t213.length co20)) (fun _ h_ => h_.1))))) (Kd.R_lt (by (with_reducible repeat (first | apply Kd.R_alloc | apply Kd.R_drewN | apply Kd.R_drew)); exact (Kd.R_mono (Kd.R_far (p := ⟨gb217, 10, none⟩) (Kd.R_far (p := ⟨gb217, 9, none⟩) (Kd.R_far (p := ⟨gb217, 8, none⟩) (Kd.R_far (p := ⟨gb217, 7, none⟩) (Kd.R_far (p := ⟨gb217, 6, none⟩) (Kd.R_far (p := ⟨gb217, 5, none⟩) (Kd.R_far (p := ⟨gb217, 4, none⟩) (Kd.R_far (p := ⟨gb217, 3, none⟩) (Kd.R_far (p := ⟨gb217, 2, none⟩) (Kd.R_far (p := ⟨gb217, 1, none⟩) (Kd.R_far (p := ⟨gb217, 0, none⟩) (Kd.R_types HO203.out BK217.out (by decide)) (fun _ hk => hk.2) (.int .u64 t199)) (fun _ hk => hk.2) (.int .u64 t200)) (fun _ hk => hk.2) (.slice Ao18 t201.length co18)) (fun _ hk => hk.2) (.int .i64 t204)) (fun _ hk => hk.2) (.int .u64 t205)) (fun _ hk => hk.2) (.string t206)) (fun _ hk => hk.2) (.slice Ao19 t207.length co19)) (fun _ hk => hk.2) (.int .i64 t210)) (fun _ hk => hk.2) (.int .u64 t211)) (fun _ hk => hk.2) (.string t212)) (fun _ hk => hk.2) (.slice Ao20 t213.length co20)) (fun _ h_ => h_.1))))) (below_size pB)); have n6_ := Aside0.mk (blk_below (g := gb217) (o := .cells #[.int .u64 t199, .int .u64 t200, .slice Ao18 t201.length co18, .int .i64 t204, .int .u64 t205, .string t206, .slice Ao19 t207.length co19, .int .i64 t210, .int .u64 t211, .string t212, .slice Ao20 t213.length co20] 28 (0, 0)) (by (with_reducible repeat (first | refine blk_drewN ?_ _ | refine blk_drew ?_ | refine blk_alloc ?_ _)); refine blk_put (cs := #[.int .u64 t199, .int .u64 t200, .slice Ao18 t201.length co18, .int .i64 t204, .int .u64 t205, .string t206, .slice Ao19 t207.length co19, .int .i64 t210, .int .u64 t211, .string t212, .slice none 0 0]) ?_ 10 _ rfl; (with_reducible repeat (first | refine blk_drewN ?_ _ | refine blk_drew ?_ | refine blk_alloc ?_ _)); refine blk_put (cs := #[.int .u64 t199, .int .u64 t200, .slice Ao18 t201.length co18, .int .i64 t204, .int .u64 t205, .string t206, .slice Ao19 t207.length co19, .int .i64 t210, .int .u64 t211, .string (⟨#[]⟩ : ByteArray), .slice none 0 0]) ?_ 9 _ rfl; (with_reducible repeat (first | refine blk_drewN ?_ _ | refine blk_drew ?_ | refine blk_alloc ?_ _)); refine blk_put (cs := #[.int .u64 t199, .int .u64 t200, .slice Ao18 t201.length co18, .int .i64 t204, .int .u64 t205, .string t206, .slice Ao19 t207.length co19, .int .i64 t210, .int .u64 0, .string (⟨#[]⟩ : ByteArray), .slice none 0 0]) ?_ 8 _ rfl; (with_reducible repeat (first | refine blk_drewN ?_ _ | refine blk_drew ?_ | refine blk_alloc ?_ _)); refine blk_put (cs := #[.int .u64 t199, .int .u64 t200, .slice Ao18 t201.length co18, .int .i64 t204, .int .u64 t205, .string t206, .slice Ao19 t207.length co19, .int .i64 0, .int .u64 0, .string (⟨#[]⟩ : ByteArray), .slice none 0 0]) ?_ 7 _ rfl; (with_reducible repeat (first | refine blk_drewN ?_ _ | refine blk_drew ?_ | refine blk_alloc ?_ _)); refine blk_put (cs := #[.int .u64 t199, .int .u64 t200, .slice Ao18 t201.length co18, .int .i64 t204, .int .u64 t205, .string t206, .slice none 0 0, .int .i64 0, .int .u64 0, .string (⟨#[]⟩ : ByteArray), .slice none 0 0]) ?_ 6 _ rfl; (with_reducible repeat (first | refine blk_drewN ?_ _ | refine blk_drew ?_ | refine blk_alloc ?_ _)); refine blk_put (cs := #[.int .u64 t199, .int .u64 t200, .slice Ao18 t201.length co18, .int .i64 t204, .int .u64 t205, .string (⟨#[]⟩ : ByteArray), .slice none 0 0, .int .i64 0, .int .u64 0, .string (⟨#[]⟩ : ByteArray), .slice none 0 0]) ?_ 5 _ rfl; (with_reducible repeat (first | refine blk_drewN ?_ _ | refine blk_drew ?_ | refine blk_alloc ?_ _)); refine blk_put (cs := #[.int .u64 t199, .int .u64 t200, .slice Ao18 t201.length co18, .int .i64 t204, .int .u64 0, .string (⟨#[]⟩ : ByteArray), .slice none 0 0, .int .i64 0, .int .u64 0, .string (⟨#[]⟩ : ByteArray), .slice none 0 0]) ?_ 4 _ rfl; (with_reducible repeat (first | refine blk_drewN ?_ _ | refine blk_drew ?_ | refine blk_alloc ?_ _)); refine blk_put (cs := #[.int .u64 t199, .int .u64 t200, .slice Ao18 t201.length co18, .int .i64 0, .int .u64 0, .string (⟨#[]⟩ : ByteArray), .slice none 0 0, .int .i64 0, .int .u64 0, .string (⟨#[]⟩ : ByteArray), .slice none 0 0]) ?_ 3 _ rfl; (with_reducible repeat (first | refine blk_drewN ?_ _ | refine blk_drew ?_ | refine blk_alloc ?_ _)); refine blk_put (cs := #[.int .u64 t199, .int .u64 t200, .slice none 0 0, .int .i64 0, .int .u64 0, .string (⟨#[]⟩ : ByteArray), .slice none 0 0, .int .i64 0, .int .u64 0, .string (⟨#[]⟩ : ByteArray), .slice none 0 0]) ?_ 2 _ rfl; (with_reducible repeat (first | refine blk_drewN ?_ _ | refine blk_drew ?_ | refine blk_alloc ?_ _)); refine blk_put (cs := #[.int .u64 t199, .int .u64 0, .slice none 0 0, .int .i64 0, .int .u64 0, .string (⟨#[]⟩ : ByteArray), .slice none 0 0, .int .i64 0, .int .u64 0, .string (⟨#[]⟩ : ByteArray), .slice none 0 0]) ?_ 1 _ rfl; (with_reducible repeat (first | refine blk_drewN ?_ _ | refine blk_drew ?_ | refine blk_alloc ?_ _)); refine blk_put (cs := #[.int .u64 0, .int .u64 0, .slice none 0 0, .int .i64 0, .int .u64 0, .string (⟨#[]⟩ : ByteArray), .slice none 0 0, .int .i64 0, .int .u64 0, .string (⟨#[]⟩ : ByteArray), .slice none 0 0]) ?_ 0 _ rfl; (with_reducible repeat (first | refine blk_drewN ?_ _ | refine blk_drew ?_ | refine blk_alloc ?_ _)); exact BK217.out) hb); have n7_ := Aside0.mk (below_step pB hb); clear HO194; clear HO197; clear HO203; clear HO209; clear HO215; clear BK217; clear HB; have HO194 := n0_; have HO197 := n1_; have HO203 := n2_; have HO209 := n3_; have HO215 := n4_; have HO220 := n5_; have BK217 := n6_; have HB := n7_; clear n0_ n1_ n2_ n3_ n4_ n5_ n6_ n7_; clear hb ho22; obtain ⟨Ao23, co23, eo23⟩ := Kd.R_slice HO220.out; subst eo23) | (go_at_call 12; (with_reducible refine (snap_Members.calls k _ _ y218 true _ ?side1 ?side2 A7.out).mono ?_); (case side1 => repeat (first | exact (Kd.R_reads' HO220.out).2.2 | (with_reducible refine Kd.C_alloc ?_ _) | (with_reducible refine Kd.C_drewN ?_ _) | (with_reducible refine Kd.C_drew ?_))); (case side2 => exact (Kd.R_reads' HO220.out).2.1); rintro e w' ⟨rfl, ⟨nd, rfl⟩⟩) | ((with_reducible refine gate_dst (N := 38) rfl ?_); (try (refine gate_guard (by rfl) ?_; dsimp only)); refine Kd.R_lit (Kd.int .i64) _ 3 ?hg (N := 38) ?hd (xs := ([3, 1] : List Int)) (inner := [.int .i64 3, .int .i64 1]) (ok := fun _ => True) (okp := fun _ => True) ?hr ?hp (fun _ hk => hk) trivial (Below.refl _ _) (Nat.le_refl _) (by simp) ?_; (case hd => rfl); (case hg => rfl); (case hr => first | (go_simp; done) | (go_simp; rfl)); (case hp => exact (Reps.one (show Kd.M (Kd.int .i64) _ _ _ 3 [.int .i64 3] from rfl) (Reps.one (show Kd.M (Kd.int .i64) _ _ _ 1 [.int .i64 1] from rfl) (Reps.none _ _)))); intro v223 w24 ho25 hb hg_ hnew_; clear hg_ hnew_; (first | rw [← Ny222.out] at ho25 | (simp only [Int.reduceToNat] at ho25; rw [← Ny222.out] at ho25)); have n0_ := Aside0.mk (Kd.R_elder' (pR HO194.out) (Kd.R_base ho25) hb); have n1_ := Aside0.mk (Kd.R_below (pR HO197.out) hb); have n2_ := Aside0.mk (Kd.R_elder' (pR HO203.out) (Kd.R_base ho25) hb); have n3_ := Aside0.mk (Kd.V_elder' (pV HO209.out) (Kd.R_base ho25) hb); have n4_ := Aside0.mk (Kd.V_elder' (pV HO215.out) (Kd.R_base ho25) hb); have n5_ := Aside0.mk (Kd.R_elder' (pR HO220.out) (Kd.R_base ho25) hb); have n6_ := Aside0.mk (Kd.R_lower (Kd.R_new' (Kd.R_new' (Kd.R_new' ho25 (Kd.R_lt (pR HO194.out))) (Kd.R_lt (pR HO203.out))) (Kd.R_lt (pR HO220.out))) (below_size pB)); have n7_ := Aside0.mk (pkb BK217.out hb); have n8_ := Aside0.mk (below_step pB hb); clear HO194; clear HO197; clear HO203; clear HO209; clear HO215; clear HO220; clear BK217; clear HB; have HO194 := n0_; have HO197 := n1_; have HO203 := n2_; have HO209 := n3_; have HO215 := n4_; have HO220 := n5_; have HO224 := n6_; have BK217 := n7_; have HB := n8_; clear n0_ n1_ n2_ n3_ n4_ n5_ n6_ n7_ n8_; clear hb ho25; obtain ⟨Ao26, co26, eo26⟩ := Kd.R_slice HO224.out; subst eo26) | (go_at_call 12; (with_reducible refine (snap_Members.calls k _ _ y222 t225 _ ?side1 ?side2 A9.out).mono ?_); (case side1 => repeat (first | exact (Kd.R_reads' HO224.out).2.2 | (with_reducible refine Kd.C_alloc ?_ _) | (with_reducible refine Kd.C_drewN ?_ _) | (with_reducible refine Kd.C_drew ?_))); (case side2 => exact (Kd.R_reads' HO224.out).2.1); rintro e w' ⟨rfl, ⟨nd, rfl⟩⟩))
      go_ret
      exact ⟨pE, pB⟩
     ·replace c8 := Bool.eq_false_iff.mpr c8
      subst c8
      have H1 : (none) = some r := by rw [if_neg (show ¬ (false = true) by decide)] at H; exact H
      clear H
      have H := H1
      clear H1
      exact absurd H (by simp)
    ·rw [if_neg c6] at H
     exact absurd H (by simp)
   ·rw [if_neg c5] at H
    exact absurd H (by simp)
  ·rw [if_neg c4] at H
   exact absurd H (by simp)
 ·rw [if_neg c3] at H
  exact absurd H (by simp)
mutual
def minstrelref07_Own.l0 : Nat → List (S26) → Int → Int → Int → ByteArray → List (S26) → Option (Int × Int × ByteArray × (List (S26)))
 | 0, _, _, _, _, _, _ => none
 | k + 1, x3, x4, x227000, x227001, x227002, x227003 => if x4 < (x227003.length : Int) then (if 0 ≤ x4 then ((minstrelref07_Own.f k ((rd_T26 x227003 x4).f0) ((rd_T26 x227003 x4).f1) ((rd_T26 x227003 x4).f2) ((rd_T26 x227003 x4).f3)).bind fun bt232 => (if x3.length < 2513169434916 then (minstrelref07_Own.l0 k (x3 ++ [(⟨bt232.1, bt232.2.1, bt232.2.2.1, bt232.2.2.2⟩ : S26)]) (wrap64 (x4 + 1)) x227000 x227001 x227002 x227003) else (none))) else (none)) else (some (x227000, x227001, x227002, x3))
def minstrelref07_Own.f : Nat → Int → Int → ByteArray → List (S26) → Option (Int × Int × ByteArray × (List (S26)))
 | 0, _, _, _, _ => none
 | k + 1, a0_0, a0_1, a0_2, l0_3 => minstrelref07_Own.l0 k (([] : List (S26))) 0 a0_0 a0_1 a0_2 l0_3
end
theorem minstrelref07_Own.mono_l : ∀ k, (∀ y0 y1 y2 y3, LeO (minstrelref07_Own.f k y0 y1 y2 y3) (minstrelref07_Own.f (k + 1) y0 y1 y2 y3)) ∧ (∀ y0 y1 y2 y3 y4 y5, LeO (minstrelref07_Own.l0 k y0 y1 y2 y3 y4 y5) (minstrelref07_Own.l0 (k + 1) y0 y1 y2 y3 y4 y5))
 | 0 => ⟨fun _ _ _ _ r h => by simp [minstrelref07_Own.f] at h, fun _ _ _ _ _ _ r h => by simp [minstrelref07_Own.l0] at h⟩
 | k + 1 => by
  obtain ⟨ih0, ih1⟩ := minstrelref07_Own.mono_l k
  refine ⟨?_, ?_⟩
  ·intro y0 y1 y2 y3
   unfold minstrelref07_Own.f
   repeat' first
   | (with_reducible exact ih0 _ _ _ _)
   | (with_reducible exact ih1 _ _ _ _ _ _)
   | (with_reducible exact LeO.refl _)
   | (with_reducible exact LeO.none _)
   | (with_reducible refine LeO.ite ?_ ?_)
   | (with_reducible refine LeO.bind ?_ (fun _ => ?_))
   | exact ih0 _ _ _ _
   | exact ih1 _ _ _ _ _ _
   | exact LeO.none _
   | refine LeO.ite ?_ ?_
   | refine LeO.bind ?_ (fun _ => ?_)
  ·intro y0 y1 y2 y3 y4 y5
   unfold minstrelref07_Own.l0
   repeat' first
   | (with_reducible exact ih0 _ _ _ _)
   | (with_reducible exact ih1 _ _ _ _ _ _)
   | (with_reducible exact LeO.refl _)
   | (with_reducible exact LeO.none _)
   | (with_reducible refine LeO.ite ?_ ?_)
   | (with_reducible refine LeO.bind ?_ (fun _ => ?_))
   | exact ih0 _ _ _ _
   | exact ih1 _ _ _ _ _ _
   | exact LeO.none _
   | refine LeO.ite ?_ ?_
   | refine LeO.bind ?_ (fun _ => ?_)
theorem minstrelref07_Own.mono : ∀ a0 a1 a2 a3 k, LeO (minstrelref07_Own.f k a0 a1 a2 a3) (minstrelref07_Own.f (k + 1) a0 a1 a2 a3) := by
 intro a0 a1 a2 a3 k
 obtain ⟨ih0, ih1⟩ := minstrelref07_Own.mono_l k
 exact ih0 a0 a1 a2 a3
set_option maxHeartbeats 8000000 in
set_option maxRecDepth 100000 in
theorem minstrelref07_Own.calls (k : Nat) : ∀ (a0_0 : Int) (a0_1 : Int) (a0_2 : ByteArray) (A0_3 : Option Addr) (c0_3 : Nat) (l0_3 : List (S26)) (r1 : Int) (r2 : Int) (r3 : ByteArray) (r4 : List (S26)) (w : World) (hr0_3 : Kd.C k26 w A0_3 l0_3.length l0_3) (hc0_3 : l0_3.length ≤ c0_3) (h : minstrelref07_Own.f k a0_0 a0_1 a0_2 l0_3 = some (r1, r2, r3, r4)),
  Calls Tryd.prog 21 #[.agg #[.int .i64 a0_0, .int .u64 a0_1, .string a0_2, .slice A0_3 l0_3.length c0_3]] w fun e w' => ∃ v3_ : Value, e = .returned (.agg #[.int .i64 r1, .int .u64 r2, .string r3, v3_]) ∧ Kd.R k26 26 w' w.heap.size (fun _ => True) v3_ r4 ∧ Below w.heap.size w w' := by
 induction k using Nat.strongRecOn with
 | _ k ih =>
 intro a0_0 a0_1 a0_2 A0_3 c0_3 l0_3 r1 r2 r3 r4 w hr0_3 hc0_3 h
 cases k with
 | zero => exact absurd h (by simp [minstrelref07_Own.f])
 | succ k =>
 simp only [minstrelref07_Own.f] at h
 have hu26 := Tryd.underlying26
 have HR0_3 := Aside0.mk hr0_3
 have HC0_3 := Aside0.mk hc0_3
 clear hr0_3 hc0_3
 have HB := Aside0.mk (Below.refl w.heap.size w)
 have H : (minstrelref07_Own.l0 k (([] : List (S26))) 0 a0_0 a0_1 a0_2 l0_3) = some (r1, r2, r3, r4) := h
 clear h
 obtain ⟨y228, hy228⟩ : ∃ y_ : List (S26), y_ = (([] : List (S26))) := ⟨_, rfl⟩
 replace H : (minstrelref07_Own.l0 k y228 0 a0_0 a0_1 a0_2 l0_3) = some (r1, r2, r3, r4) := by first | (rw [hy228]; with_reducible exact H) | (have H2_ := (Option.bind_some _ _).symm.trans H; rw [hy228]; with_reducible exact H2_) | (have H2_ := (Option.bind_some _ _).symm.trans H; with_reducible exact H2_) | with_reducible exact H | (rw [hy228]; exact H) | exact H
 have Ny228 := Aside0.mk hy228
 clear hy228
 have H' := Aside0.mk H
 clear H
 go_enter Tryd.func21, Tryd.ntmps21
 go_wp2_with (first | ((with_reducible refine gate_dst (N := 1) rfl ?_); refine box_event ?hg (N := 1) ?hd (cs := #[.int .i64 a0_0, .int .u64 a0_1, .string a0_2, .slice A0_3 l0_3.length c0_3]) (t := 26) ?hr ?_; (case hd => rfl); (case hg => rfl); (case hr => first | (go_simp; done) | (go_simp; rfl)); intro gb226 hg w2 hbox hb; have n0_ := Aside0.mk (below_step pB hb); have n1_ := Aside0.mk (hbox); have n2_ := Aside0.mk ((by rw [hg]; exact (below_size pB) : w.heap.size ≤ gb226)); have n3_ := Aside0.mk ((by rw [hg]; exact (below_size pB) : w.heap.size ≤ gb226)); clear HB; have HB := n0_; have BK226 := n1_; have GW226 := n2_; have GE226 := n3_; clear n0_ n1_ n2_ n3_; clear hb hbox hg) | ((with_reducible refine gate_dst (N := 2) rfl ?_); refine box_event ?hg (N := 2) ?hd (cs := #[.int .i64 0, .int .u64 0, .string (⟨#[]⟩ : ByteArray), .slice none 0 0]) (t := 26) ?hr ?_; (case hd => rfl); (case hg => rfl); (case hr => first | (go_simp; done) | (go_simp; rfl)); intro gb227 hg w3 hbox hb; have n0_ := Aside0.mk (pkb BK226.out hb); have n1_ := Aside0.mk (below_step pB hb); have n2_ := Aside0.mk (hbox); have n3_ := Aside0.mk ((by rw [hg]; exact (below_size pB) : w.heap.size ≤ gb227)); have n4_ := Aside0.mk ((by rw [hg]; exact (below_size pB) : w.heap.size ≤ gb227)); have n5_ := Aside0.mk ((by rw [hg]; exact Nat.ne_of_lt (pkl BK226.out) : gb226 ≠ gb227)); have n6_ := Aside0.mk ((by rw [hg]; exact Nat.ne_of_gt (pkl BK226.out) : gb227 ≠ gb226)); clear BK226; clear HB; have BK226 := n0_; have HB := n1_; have BK227 := n2_; have GW227 := n3_; have GE227 := n4_; have NB226_227 := n5_; have NB227_226 := n6_; clear n0_ n1_ n2_ n3_ n4_ n5_ n6_; clear hb hbox hg) | ((with_reducible refine gate_dst (N := 5) rfl ?_); refine Kd.R_lit k26 _ 26 ?hg (N := 5) ?hd (xs := ([] : List (S26))) (inner := []) (ok := fun _ => True) (okp := fun _ => True) ?hr ?hp (fun _ hk => hk) trivial (Below.refl _ _) (Nat.le_refl _) (by simp) ?_; (case hd => rfl); (case hg => rfl); (case hr => first | (go_simp; done) | (go_simp; rfl)); (case hp => exact (Reps.none _ _)); intro v229 w4 ho5 hb hg_ hnew_; clear hg_ hnew_; (first | rw [← Ny228.out] at ho5 | (simp only [Int.reduceToNat] at ho5; rw [← Ny228.out] at ho5)); have n0_ := Aside0.mk (Kd.R_lower (Kd.R_newB (Kd.R_newB ho5 (g := gb226) (o := .cells #[.int .i64 a0_0, .int .u64 a0_1, .string a0_2, .slice A0_3 l0_3.length c0_3] 26 (0, 0)) (pK BK226.out)) (g := gb227) (o := .cells #[.int .i64 0, .int .u64 0, .string (⟨#[]⟩ : ByteArray), .slice none 0 0] 26 (0, 0)) (pK BK227.out)) (below_size pB)); have n1_ := Aside0.mk (pkb BK226.out hb); have n2_ := Aside0.mk (pkb BK227.out hb); have n3_ := Aside0.mk (below_step pB hb); clear BK226; clear BK227; clear HB; have HO230 := n0_; have BK226 := n1_; have BK227 := n2_; have HB := n3_; clear n0_ n1_ n2_ n3_; clear hb ho5))
 go_loopg [3, 4] k (fun kq v3 v4 w' => ∃ (x3_1 : List (S26)) (x4_1 : Int), v4 = .int .i64 x4_1 ∧ Aside0 (minstrelref07_Own.l0 kq x3_1 x4_1 a0_0 a0_1 a0_2 l0_3 = some (r1, r2, r3, r4)) ∧ Aside0 (kq ≤ k) ∧ Aside0 (Kd.R k26 26 w' w.heap.size (fun k_ => k_ ≠ gb226 ∧ k_ ≠ gb227) v3 x3_1) ∧ Aside0 (w'.heap[gb226]? = some (.cells #[.int .i64 a0_0, .int .u64 a0_1, .string a0_2, (.slice A0_3 l0_3.length c0_3)] 26 (0, 0))) ∧ Aside0 (w'.heap[gb227]? = some (.cells #[.int .i64 0, .int .u64 0, .string (⟨#[]⟩ : ByteArray), (.slice none 0 0)] 26 (0, 0))) ∧ Aside0 (Below w.heap.size w w'))
 case atStart => exact ⟨(y228), (0), (by first | rfl | (simp; done) | (simp [*]; done)), H', ⟨Nat.le_refl _⟩, ⟨by (with_reducible repeat (first | apply Kd.R_alloc | apply Kd.R_drewN | apply Kd.R_drew)); exact Kd.R_mono HO230.out (fun _ hk => ⟨hk.1.2, hk.2⟩)⟩, ⟨by (with_reducible repeat (first | refine blk_drewN ?_ _ | refine blk_drew ?_ | refine blk_alloc ?_ _)); exact BK226.out⟩, ⟨by (with_reducible repeat (first | refine blk_drewN ?_ _ | refine blk_drew ?_ | refine blk_alloc ?_ _)); exact BK227.out⟩, ⟨pB⟩⟩
 case round =>
  clear H'
  try clear c2
  try clear p2
  obtain ⟨x3_1, x4_1, rfl, HA, HK1, HO_3, BK226, BK227, HB⟩ := hrel
  cases gk with
  | zero => exact absurd HA.out (by simp [minstrelref07_Own.l0])
  | succ k1 =>
   have H := HA.out
   clear HA
   simp only [minstrelref07_Own.l0] at H
   by_cases c6 : x4_1 < (l0_3.length : Int)
   ·rw [if_pos c6] at H
    have c6b0 : decide (x4_1 < (l0_3.length : Int)) = true := decide_eq_true c6
    clear c6
    by_cases c7 : 0 ≤ x4_1
    ·rw [if_pos c7] at H
     have c7b0 : decide (0 ≤ x4_1) = true := decide_eq_true c7
     clear c7
     replace H := Option.bind_eq_some_iff.mp H
     obtain ⟨⟨t232, t233, t234, t235⟩, A80, H⟩ := H
     replace H : (if x3_1.length < 2513169434916 then (minstrelref07_Own.l0 k1 (x3_1 ++ [(⟨t232, t233, t234, t235⟩ : S26)]) (wrap64 (x4_1 + 1)) a0_0 a0_1 a0_2 l0_3) else (none)) = some (r1, r2, r3, r4) := H
     have A8 := Aside0.mk A80
     clear A80
     by_cases c9 : x3_1.length < 2513169434916
     ·rw [if_pos c9] at H
      have LMc9 := Aside0.mk c9
      clear c9
      obtain ⟨y238, hy238⟩ : ∃ y_ : List (S26), y_ = (x3_1 ++ [(⟨t232, t233, t234, t235⟩ : S26)]) := ⟨_, rfl⟩
      replace H : (minstrelref07_Own.l0 k1 y238 (wrap64 (x4_1 + 1)) a0_0 a0_1 a0_2 l0_3) = some (r1, r2, r3, r4) := by first | (rw [hy238]; with_reducible exact H) | (have H2_ := (Option.bind_some _ _).symm.trans H; rw [hy238]; with_reducible exact H2_) | (have H2_ := (Option.bind_some _ _).symm.trans H; with_reducible exact H2_) | with_reducible exact H | (rw [hy238]; exact H) | exact H
      have Ny238 := Aside0.mk hy238
      clear hy238
      have H' := Aside0.mk H
      clear H
      have hnb10 := NB226_227.out
      have hnc10 := NB227_226.out
      obtain ⟨hcz11_0, hcz11_1, hcz11_2, hcz11_3, hfz11_0, hfz11_1, hfz11_2, hfz11_3⟩ := cf4 BK226.out
      have p231 : 0 ≤ (x4_1 : Int) := pD
      have q231 : x4_1 < (l0_3.length : Int) := pD
      obtain ⟨ad231, A231_3, c231_3, e231, hx231_0, hx231_1, hx231_2, hx231_3, hl231_3, hi231_3⟩ := at_T26 HR0_3.out x4_1 p231 q231
      cases e231
      replace hx231_0 := (HB.out.cell (World.block_lt_of_cell? w _ hx231_0)).trans hx231_0
      replace hx231_1 := (HB.out.cell (World.block_lt_of_cell? w _ hx231_1)).trans hx231_1
      replace hx231_2 := (HB.out.cell (World.block_lt_of_cell? w _ hx231_2)).trans hx231_2
      replace hx231_3 := (HB.out.cell (World.block_lt_of_cell? w _ hx231_3)).trans hx231_3
      have HR231_3 := Aside0.mk hi231_3
      have HC231_3 := Aside0.mk hl231_3
      clear hi231_3 hl231_3
      replace p231 := eq_true p231
      replace q231 := eq_true q231
      go_wp2_with (first | ((with_reducible refine gate_callee (f := 21) rfl ?_); refine goesL_ (some 19) rfl rfl Tryd.func21 (by kernel_rfl) rfl #[.agg #[.int .i64 ((rd_T26 l0_3 x4_1).f0), .int .u64 ((rd_T26 l0_3 x4_1).f1), .string ((rd_T26 l0_3 x4_1).f2), .slice A231_3 ((rd_T26 l0_3 x4_1).f3).length c231_3]] rfl pM ?_; (with_reducible refine (ih k1 (by have := HK1.out; omega) ((rd_T26 l0_3 x4_1).f0) ((rd_T26 l0_3 x4_1).f1) ((rd_T26 l0_3 x4_1).f2) _ _ ((rd_T26 l0_3 x4_1).f3) t232 t233 t234 t235 _ ?side1 ?side2 A8.out).mono ?_); (case side1 => exact pC (Kd.C_below HR231_3.out HB.out)); (case side2 => exact HC231_3.out); rintro e w12 ⟨v236, rfl, ho0, hb⟩; refine ⟨_, rfl, ?_⟩; have n0_ := Aside0.mk (Kd.R_elder' (pR HO_3.out) (Kd.R_base ho0) hb); have n1_ := Aside0.mk (Kd.R_lower (Kd.R_newB (Kd.R_newB (Kd.R_new' ho0 (Kd.R_lt (pR HO_3.out))) (g := gb226) (o := .cells #[.int .i64 a0_0, .int .u64 a0_1, .string a0_2, .slice (some ad231) l0_3.length c0_3] 26 (0, 0)) (pK BK226.out)) (g := gb227) (o := .cells #[.int .i64 0, .int .u64 0, .string (⟨#[]⟩ : ByteArray), .slice none 0 0] 26 (0, 0)) (pK BK227.out)) (below_size pB)); have n2_ := Aside0.mk (pkb BK226.out hb); have n3_ := Aside0.mk (pkb BK227.out hb); have n4_ := Aside0.mk (below_step pB hb); clear HO_3; clear BK226; clear BK227; clear HB; have HO_3 := n0_; have HO237 := n1_; have BK226 := n2_; have BK227 := n3_; have HB := n4_; clear n0_ n1_ n2_ n3_ n4_; (try clear hb); (try clear hb2); (try clear hk); (try clear hi); (try clear ho0); obtain ⟨Ao14, co14, eo14⟩ := Kd.R_slice HO237.out; subst eo14) | ((with_reducible refine gate_builtin (b := .append) (xs := #[.tmp 13, .tmp 20]) rfl ?_); at_builtin; refine Kd.R_append k26 (w0 := w) w.heap.size rfl (.tmp 13) (.tmp 20) 24 26 (.agg #[(.int .i64 0), (.int .u64 0), (.string ⟨#[]⟩), (.slice none 0 0)]) 56 rfl Tryd.underlying24 info26 rfl (by decide) (by omega) u3 x3_1 (⟨t232, t233, t234, t235⟩ : S26) [.int .i64 t232, .int .u64 t233, .string t234, .slice Ao14 t235.length co14] (fun k_ => k_ ≠ gb226 ∧ k_ ≠ gb227) (fun k_ => ((fun k_ => k_ ≠ gb226 ∧ k_ ≠ gb227)) k_ ∧ some k_ ≠ (u3 : Value).ownBlock) rfl rfl ?aP (fun _ hk => hk) ?aF ?aO ?aB ?aS ?aL ?_; (case aP => exact k26_mkM _ _ _ (⟨t232, t233, t234, t235⟩ : S26) (Kd.R_mono (HO237.out) (fun k_ hk => ⟨⟨hk.1.2, hk.2⟩, hk.1.1.2⟩))); (case aB => exact pB); (case aF => exact (fun k_ hk => ⟨Kd.freshB (g := gb226) (o := .cells #[.int .i64 a0_0, .int .u64 a0_1, .string a0_2, .slice (some ad231) l0_3.length c0_3] 26 (0, 0)) (pK BK226.out) k_ hk, Kd.freshB (g := gb227) (o := .cells #[.int .i64 0, .int .u64 0, .string (⟨#[]⟩ : ByteArray), .slice none 0 0] 26 (0, 0)) (pK BK227.out) k_ hk⟩)); (case aO => exact (by (with_reducible repeat (first | apply Kd.R_alloc | apply Kd.R_drewN | apply Kd.R_drew)); exact Kd.R_mono HO_3.out (fun _ hk => ⟨hk.1.1, hk.1.2⟩))); (case aS => exact (below_size pB)); (case aL => have := LMc9.out; omega); intro v239 w13 ho hb hg hat; rw [← Ny238.out] at ho; have n0_ := Aside0.mk (blk_grown (g := gb226) (o := .cells #[.int .i64 a0_0, .int .u64 a0_1, .string a0_2, .slice (some ad231) l0_3.length c0_3] 26 (0, 0)) (pK BK226.out) hg (Kd.R_away HO_3.out (fun _ hk => hk.1.1))); have n1_ := Aside0.mk (blk_grown (g := gb227) (o := .cells #[.int .i64 0, .int .u64 0, .string (⟨#[]⟩ : ByteArray), .slice none 0 0] 26 (0, 0)) (pK BK227.out) hg (Kd.R_away HO_3.out (fun _ hk => hk.1.2))); have n2_ := Aside0.mk (hb); have n3_ := Aside0.mk (ho); clear BK226; clear BK227; clear HB; clear HO_3; clear HO237; have BK226 := n0_; have BK227 := n1_; have HB := n2_; have HO240 := n3_; clear n0_ n1_ n2_ n3_; clear ho hb hg hat))
      go_roundg k1
      case measure => have := HK1.out; omega
      case rel => exact ⟨(y238), (wrap64 (x4_1 + 1)), (by first | rfl | (simp; done) | (simp [*]; done)), H', ⟨by have := HK1.out; omega⟩, ⟨by (with_reducible repeat (first | apply Kd.R_alloc | apply Kd.R_drewN | apply Kd.R_drew)); exact HO240.out⟩, ⟨by (with_reducible repeat (first | refine blk_drewN ?_ _ | refine blk_drew ?_ | refine blk_alloc ?_ _)); exact BK226.out⟩, ⟨by (with_reducible repeat (first | refine blk_drewN ?_ _ | refine blk_drew ?_ | refine blk_alloc ?_ _)); exact BK227.out⟩, ⟨pB⟩⟩
     ·rw [if_neg c9] at H
      exact absurd H (by simp)
    ·rw [if_neg c7] at H
     exact absurd H (by simp)
   ·rw [if_neg c6] at H
    have c6b0 : decide (x4_1 < (l0_3.length : Int)) = false := decide_eq_false c6
    clear c6
    simp only [Option.some.injEq, Prod.mk.injEq] at H
    obtain ⟨rfl, rfl, rfl, rfl⟩ := H
    have hnb15 := NB226_227.out
    have hnc15 := NB227_226.out
    obtain ⟨hcz16_0, hcz16_1, hcz16_2, hcz16_3, hfz16_0, hfz16_1, hfz16_2, hfz16_3⟩ := cf4 BK226.out
    obtain ⟨Ao17, co17, eo17⟩ := Kd.R_slice HO_3.out
    subst eo17
    obtain ⟨hcz18_0, hcz18_1, hcz18_2, hcz18_3, hfz18_0, hfz18_1, hfz18_2, hfz18_3⟩ := cf4 BK227.out
    go_wp2
    refine bodyPost_ret (results_cell_row rfl _ _ gb227 26 #[.int .i64 a0_0, .int .u64 a0_1, .string a0_2, .slice Ao17 x3_1.length co17] (0, 0) _ rfl (by (with_reducible repeat (first | refine blk_drewN ?_ _ | refine blk_drew ?_ | refine blk_alloc ?_ _)); refine blk_put (cs := #[.int .i64 a0_0, .int .u64 a0_1, .string a0_2, .slice none 0 0]) ?_ 3 _ rfl; (with_reducible repeat (first | refine blk_drewN ?_ _ | refine blk_drew ?_ | refine blk_alloc ?_ _)); refine blk_put (cs := #[.int .i64 a0_0, .int .u64 a0_1, .string (⟨#[]⟩ : ByteArray), .slice none 0 0]) ?_ 2 _ rfl; (with_reducible repeat (first | refine blk_drewN ?_ _ | refine blk_drew ?_ | refine blk_alloc ?_ _)); refine blk_put (cs := #[.int .i64 a0_0, .int .u64 0, .string (⟨#[]⟩ : ByteArray), .slice none 0 0]) ?_ 1 _ rfl; (with_reducible repeat (first | refine blk_drewN ?_ _ | refine blk_drew ?_ | refine blk_alloc ?_ _)); refine blk_put (cs := #[.int .i64 0, .int .u64 0, .string (⟨#[]⟩ : ByteArray), .slice none 0 0]) ?_ 0 _ rfl; (with_reducible repeat (first | refine blk_drewN ?_ _ | refine blk_drew ?_ | refine blk_alloc ?_ _)); refine blk_far ?_ NB227_226.out _; (with_reducible repeat (first | refine blk_drewN ?_ _ | refine blk_drew ?_ | refine blk_alloc ?_ _)); exact BK227.out) Tryd.underlying26 rfl (by kernel_rfl)) rfl ?_
    exact ⟨_, pE, by (with_reducible repeat (first | apply Kd.R_alloc | apply Kd.R_drewN | apply Kd.R_drew)); exact Kd.R_mono (Kd.R_far (p := ⟨gb227, 3, none⟩) (Kd.R_far (p := ⟨gb227, 2, none⟩) (Kd.R_far (p := ⟨gb227, 1, none⟩) (Kd.R_far (p := ⟨gb227, 0, none⟩) (Kd.R_far (p := ⟨gb226, 3, none⟩) (Kd.R_mono (Kd.R_mono HO_3.out (fun k_ hk => (⟨hk, hk.1⟩ : _ ∧ k_ ≠ gb226))) (fun k_ hk => (⟨hk, hk.1.2⟩ : _ ∧ k_ ≠ gb227))) (fun _ hk => hk.1.2) (.slice Ao17 x3_1.length co17)) (fun _ hk => hk.2) (.int .i64 a0_0)) (fun _ hk => hk.2) (.int .u64 a0_1)) (fun _ hk => hk.2) (.string a0_2)) (fun _ hk => hk.2) (.slice Ao17 x3_1.length co17)) (fun _ hk => trivial), pB⟩
def minstrellaw19_own.f (k : Nat) (a0_0 : Int) (a0_1 : Int) (l0_2 : List Int) (a0_3 : Int) (a0_4 : Int) (a0_5 : ByteArray) (l0_6 : List (S26)) (a0_7 : Int) (a0_8 : Int) (a0_9 : ByteArray) (l0_10 : List (S26)) : Option (Int × Int × List Int × Int × Int × ByteArray × (List (S26)) × Int × Int × ByteArray × (List (S26))) := (some (([] : List Int) : List Int)).bind fun y243 => (if y243.length + l0_2.length < 17592186044416 then ((minstrelref07_Own.f k a0_3 a0_4 a0_5 l0_6).bind fun bt249 => ((minstrelref07_Own.f k a0_7 a0_8 a0_9 l0_10).bind fun bt255 => (some (a0_0, a0_1, (y243 ++ l0_2), bt249.1, bt249.2.1, bt249.2.2.1, bt249.2.2.2, bt255.1, bt255.2.1, bt255.2.2.1, bt255.2.2.2)))) else (none))
theorem minstrellaw19_own.mono : ∀ a0 a1 a2 a3 a4 a5 a6 a7 a8 a9 a10 k, LeO (minstrellaw19_own.f k a0 a1 a2 a3 a4 a5 a6 a7 a8 a9 a10) (minstrellaw19_own.f (k + 1) a0 a1 a2 a3 a4 a5 a6 a7 a8 a9 a10) := by
 intro a0 a1 a2 a3 a4 a5 a6 a7 a8 a9 a10 k
 unfold minstrellaw19_own.f
 repeat' first
   | (with_reducible exact minstrelref07_Own.mono _ _ _ _ _)
   | (with_reducible exact LeO.refl _)
   | (with_reducible exact LeO.none _)
   | (with_reducible refine LeO.ite ?_ ?_)
   | (with_reducible refine LeO.bind ?_ (fun _ => ?_))
   | exact minstrelref07_Own.mono _ _ _ _ _
   | exact LeO.none _
   | refine LeO.ite ?_ ?_
   | refine LeO.bind ?_ (fun _ => ?_)
def minstrellaw19_own.T1 : Bool × List (List Nat × List Nat) := (true, [([], []), ([], []), ([1], [1]), ([0, 2], [0, 2]), ([], []), ([4], [4]), ([5, 3], [5]), ([], []), ([7], [7]), ([8, 6], [8]), ([0, 1, 2, 3, 4, 5, 7, 8], []), ([10, 3, 9, 0, 1, 2, 3, 4, 5, 7, 8], [3, 10]), ([0, 1, 2, 3, 4, 5, 6, 7, 8, 10, 11], []), ([12, 6, 11, 0, 1, 2, 3, 4, 5, 6, 7, 8, 10, 11], [6, 12]), ([0, 1, 2, 3, 4, 5, 6, 7, 8, 9, 10, 11, 12, 13], []), ([14, 9, 13, 0, 1, 2, 3, 4, 5, 6, 7, 8, 9, 10, 11, 12, 13], [9, 14])])
def minstrellaw19_own.B1 : List Nat := [0, 0, 2, 7, 0, 16, 63, 0, 128, 511, 447, 2047, 4095, 8191, 16383, 32767]
theorem minstrellaw19_own.tab1 : rtab .any (opsOf Tryd.f10 1) = minstrellaw19_own.T1 := by kernel_rfl
theorem minstrellaw19_own.bits1 : waitsOk minstrellaw19_own.T1.2 minstrellaw19_own.B1 = true := by kernel_rfl
set_option maxHeartbeats 8000000 in
set_option maxRecDepth 100000 in
theorem minstrellaw19_own.calls (k : Nat) (a0_0 : Int) (a0_1 : Int) (A0_2 : Option Addr) (c0_2 : Nat) (l0_2 : List Int) (a0_3 : Int) (a0_4 : Int) (a0_5 : ByteArray) (A0_6 : Option Addr) (c0_6 : Nat) (l0_6 : List (S26)) (a0_7 : Int) (a0_8 : Int) (a0_9 : ByteArray) (A0_10 : Option Addr) (c0_10 : Nat) (l0_10 : List (S26)) (r1 : Int) (r2 : Int) (r3 : List Int) (r4 : Int) (r5 : Int) (r6 : ByteArray) (r7 : List (S26)) (r8 : Int) (r9 : Int) (r10 : ByteArray) (r11 : List (S26)) (w : World) (hr0_2 : Kd.C (Kd.int .i64) w A0_2 l0_2.length l0_2) (hc0_2 : l0_2.length ≤ c0_2) (hr0_6 : Kd.C k26 w A0_6 l0_6.length l0_6) (hc0_6 : l0_6.length ≤ c0_6) (hr0_10 : Kd.C k26 w A0_10 l0_10.length l0_10) (hc0_10 : l0_10.length ≤ c0_10) (h : minstrellaw19_own.f k a0_0 a0_1 l0_2 a0_3 a0_4 a0_5 l0_6 a0_7 a0_8 a0_9 l0_10 = some (r1, r2, r3, r4, r5, r6, r7, r8, r9, r10, r11)) :
  Calls Tryd.prog 10 #[.agg #[.int .u64 a0_0, .int .u64 a0_1, .slice A0_2 l0_2.length c0_2, .int .i64 a0_3, .int .u64 a0_4, .string a0_5, .slice A0_6 l0_6.length c0_6, .int .i64 a0_7, .int .u64 a0_8, .string a0_9, .slice A0_10 l0_10.length c0_10]] w fun e w' => ∃ v2_ v6_ v10_ : Value, e = .returned (.agg #[.int .u64 r1, .int .u64 r2, v2_, .int .i64 r4, .int .u64 r5, .string r6, v6_, .int .i64 r8, .int .u64 r9, .string r10, v10_]) ∧ Kd.R (Kd.int .i64) 3 w' w.heap.size (fun _ => True) v2_ r3 ∧ Kd.R k26 26 w' w.heap.size (fun k_ => some k_ ≠ (v10_ : Value).ownBlock) v6_ r7 ∧ Kd.R k26 26 w' w.heap.size (fun k_ => some k_ ≠ (v6_ : Value).ownBlock) v10_ r11 ∧ Below w.heap.size w w' := by
 have hu28 := Tryd.underlying28
 have hu26 := Tryd.underlying26
 have HR0_2 := Aside0.mk hr0_2
 have HC0_2 := Aside0.mk hc0_2
 clear hr0_2 hc0_2
 have HR0_6 := Aside0.mk hr0_6
 have HC0_6 := Aside0.mk hc0_6
 clear hr0_6 hc0_6
 have HR0_10 := Aside0.mk hr0_10
 have HC0_10 := Aside0.mk hc0_10
 clear hr0_10 hc0_10
 have HB := Aside0.mk (Below.refl w.heap.size w)
 have H : ((some (([] : List Int) : List Int)).bind fun y243 => (if y243.length + l0_2.length < 17592186044416 then ((minstrelref07_Own.f k a0_3 a0_4 a0_5 l0_6).bind fun bt249 => ((minstrelref07_Own.f k a0_7 a0_8 a0_9 l0_10).bind fun bt255 => (some (a0_0, a0_1, (y243 ++ l0_2), bt249.1, bt249.2.1, bt249.2.2.1, bt249.2.2.2, bt255.1, bt255.2.1, bt255.2.2.1, bt255.2.2.2)))) else (none))) = some (r1, r2, r3, r4, r5, r6, r7, r8, r9, r10, r11) := h
 clear h
 obtain ⟨y243, hy243⟩ : ∃ y_ : List Int, y_ = (([] : List Int)) := ⟨_, rfl⟩
 replace H : (if y243.length + l0_2.length < 17592186044416 then ((minstrelref07_Own.f k a0_3 a0_4 a0_5 l0_6).bind fun bt249 => ((minstrelref07_Own.f k a0_7 a0_8 a0_9 l0_10).bind fun bt255 => (some (a0_0, a0_1, (y243 ++ l0_2), bt249.1, bt249.2.1, bt249.2.2.1, bt249.2.2.2, bt255.1, bt255.2.1, bt255.2.2.1, bt255.2.2.2)))) else (none)) = some (r1, r2, r3, r4, r5, r6, r7, r8, r9, r10, r11) := by first | (rw [hy243]; with_reducible exact H) | (have H2_ := (Option.bind_some _ _).symm.trans H; rw [hy243]; with_reducible exact H2_) | (have H2_ := (Option.bind_some _ _).symm.trans H; with_reducible exact H2_) | with_reducible exact H | (rw [hy243]; exact H) | exact H
 have Ny243 := Aside0.mk hy243
 clear hy243
 by_cases c2 : y243.length + l0_2.length < 17592186044416
 ·rw [if_pos c2] at H
  have LMc2 := Aside0.mk c2
  clear c2
  obtain ⟨y246, hy246⟩ : ∃ y_ : List Int, y_ = (y243 ++ l0_2) := ⟨_, rfl⟩
  replace H : ((minstrelref07_Own.f k a0_3 a0_4 a0_5 l0_6).bind fun bt249 => ((minstrelref07_Own.f k a0_7 a0_8 a0_9 l0_10).bind fun bt255 => (some (a0_0, a0_1, y246, bt249.1, bt249.2.1, bt249.2.2.1, bt249.2.2.2, bt255.1, bt255.2.1, bt255.2.2.1, bt255.2.2.2)))) = some (r1, r2, r3, r4, r5, r6, r7, r8, r9, r10, r11) := by first | (rw [hy246]; with_reducible exact H) | (have H2_ := (Option.bind_some _ _).symm.trans H; rw [hy246]; with_reducible exact H2_) | (have H2_ := (Option.bind_some _ _).symm.trans H; with_reducible exact H2_) | with_reducible exact H | (rw [hy246]; exact H) | exact H
  have Ny246 := Aside0.mk hy246
  clear hy246
  replace H := Option.bind_eq_some_iff.mp H
  obtain ⟨⟨t249, t250, t251, t252⟩, A30, H⟩ := H
  replace H : ((minstrelref07_Own.f k a0_7 a0_8 a0_9 l0_10).bind fun bt255 => (some (a0_0, a0_1, y246, t249, t250, t251, t252, bt255.1, bt255.2.1, bt255.2.2.1, bt255.2.2.2))) = some (r1, r2, r3, r4, r5, r6, r7, r8, r9, r10, r11) := H
  have A3 := Aside0.mk A30
  clear A30
  replace H := Option.bind_eq_some_iff.mp H
  obtain ⟨⟨t255, t256, t257, t258⟩, A40, H⟩ := H
  replace H : (some (a0_0, a0_1, y246, t249, t250, t251, t252, t255, t256, t257, t258)) = some (r1, r2, r3, r4, r5, r6, r7, r8, r9, r10, r11) := H
  have A4 := Aside0.mk A40
  clear A40
  simp only [Option.some.injEq, Prod.mk.injEq] at H
  obtain ⟨rfl, rfl, rfl, rfl, rfl, rfl, rfl, rfl, rfl, rfl, rfl⟩ := H
  go_enter Tryd.func10, Tryd.ntmps10
  try go_wp2_with (first | ((with_reducible refine gate_dst (N := 1) rfl ?_); refine box_event ?hg (N := 1) ?hd (cs := #[.int .u64 a0_0, .int .u64 a0_1, .slice A0_2 l0_2.length c0_2, .int .i64 a0_3, .int .u64 a0_4, .string a0_5, .slice A0_6 l0_6.length c0_6, .int .i64 a0_7, .int .u64 a0_8, .string a0_9, .slice A0_10 l0_10.length c0_10]) (t := 28) ?hr ?_; (case hd => rfl); (case hg => rfl); (case hr => first | (go_simp; done) | (go_simp; rfl)); intro gb241 hg w5 hbox hb; have n0_ := Aside0.mk (below_step pB hb); have n1_ := Aside0.mk (hbox); have n2_ := Aside0.mk ((by rw [hg]; exact (below_size pB) : w.heap.size ≤ gb241)); have n3_ := Aside0.mk ((by rw [hg]; exact (below_size pB) : w.heap.size ≤ gb241)); clear HB; have HB := n0_; have BK241 := n1_; have GW241 := n2_; have GE241 := n3_; clear n0_ n1_ n2_ n3_; clear hb hbox hg) | ((with_reducible refine gate_dst (N := 2) rfl ?_); refine box_event ?hg (N := 2) ?hd (cs := #[.int .u64 0, .int .u64 0, .slice none 0 0, .int .i64 0, .int .u64 0, .string (⟨#[]⟩ : ByteArray), .slice none 0 0, .int .i64 0, .int .u64 0, .string (⟨#[]⟩ : ByteArray), .slice none 0 0]) (t := 28) ?hr ?_; (case hd => rfl); (case hg => rfl); (case hr => first | (go_simp; done) | (go_simp; rfl)); intro gb242 hg w6 hbox hb; have n0_ := Aside0.mk (pkb BK241.out hb); have n1_ := Aside0.mk (below_step pB hb); have n2_ := Aside0.mk (hbox); have n3_ := Aside0.mk ((by rw [hg]; exact (below_size pB) : w.heap.size ≤ gb242)); have n4_ := Aside0.mk ((by rw [hg]; exact (below_size pB) : w.heap.size ≤ gb242)); have n5_ := Aside0.mk ((by rw [hg]; exact Nat.ne_of_lt (pkl BK241.out) : gb241 ≠ gb242)); have n6_ := Aside0.mk ((by rw [hg]; exact Nat.ne_of_gt (pkl BK241.out) : gb242 ≠ gb241)); clear BK241; clear HB; have BK241 := n0_; have HB := n1_; have BK242 := n2_; have GW242 := n3_; have GE242 := n4_; have NB241_242 := n5_; have NB242_241 := n6_; clear n0_ n1_ n2_ n3_ n4_ n5_ n6_; clear hb hbox hg))
  have n0_ := Aside0.mk (blk_drew BK241.out)
  have n1_ := Aside0.mk (blk_drew BK242.out)
  have n2_ := Aside0.mk (below_drew1 HB.out)
  clear BK241 BK242 HB; have BK241 := n0_; have BK242 := n1_; have HB := n2_; clear n0_ n1_ n2_
  refine start_ (n := 16) (S := fun w' => w'.cell? ⟨gb241, 0, none⟩ = some (.int .u64 a0_0) ∧ w'.cell? ⟨gb241, 1, none⟩ = some (.int .u64 a0_1) ∧ w'.cell? ⟨gb241, 2, none⟩ = some (.slice A0_2 l0_2.length c0_2) ∧ w'.cell? ⟨gb241, 3, none⟩ = some (.int .i64 a0_3) ∧ w'.cell? ⟨gb241, 4, none⟩ = some (.int .u64 a0_4) ∧ w'.cell? ⟨gb241, 5, none⟩ = some (.string a0_5) ∧ w'.cell? ⟨gb241, 6, none⟩ = some (.slice A0_6 l0_6.length c0_6) ∧ w'.cell? ⟨gb241, 7, none⟩ = some (.int .i64 a0_7) ∧ w'.cell? ⟨gb241, 8, none⟩ = some (.int .u64 a0_8) ∧ w'.cell? ⟨gb241, 9, none⟩ = some (.string a0_9) ∧ w'.cell? ⟨gb241, 10, none⟩ = some (.slice A0_10 l0_10.length c0_10)) (ds := [11, 13, 15]) #[false, false, false, false, false, false, false, false, false, false, false, false, false, false, false, false] (by kernel_rfl) rfl rfl ⟨cz0 BK241.out, cz1 BK241.out, cz2 BK241.out, cz3 BK241.out, cz4 BK241.out, cz5 BK241.out, cz6 BK241.out, cz7 BK241.out, cz8 BK241.out, cz9 BK241.out, cz10 BK241.out⟩ (fun hHeld => ?_); refine with_tabW minstrellaw19_own.tab1 minstrellaw19_own.bits1 (fun HT_ HW_ => ?_)
  generalize w6.drew = w7 at BK241 BK242 HB hHeld ⊢
  refine pure_ (i := 1) (N := some 4) (v := ?_) (a' := ?_) #[false, true, false, false, false, false, false, false, false, false, false, false, false, false, false, false] rfl rfl (any_of HT_.out (by kernel_rfl)) (fun _ _ _ h => h) (Or.inl ⟨by kernel_rfl, ?_⟩) ?_ ?_
  rotate_left
  ·intro w'
   go_simp
   with_reducible rfl
  rotate_left
  ·exact pA
  refine pure_ (i := 4) (N := some 7) (v := ?_) (a' := ?_) #[false, true, false, false, true, false, false, false, false, false, false, false, false, false, false, false] rfl rfl (any_of HT_.out (by kernel_rfl)) (fun _ _ _ h => h) (Or.inl ⟨by kernel_rfl, ?_⟩) ?_ ?_
  rotate_left
  ·intro w'
   go_simp
   with_reducible rfl
  rotate_left
  ·exact pA
  refine pure_ (i := 7) (N := some 10) (v := ?_) (a' := ?_) #[false, true, false, false, true, false, false, true, false, false, false, false, false, false, false, false] rfl rfl (any_of HT_.out (by kernel_rfl)) (fun _ _ _ h => h) (Or.inl ⟨by kernel_rfl, ?_⟩) ?_ ?_
  rotate_left
  ·intro w'
   go_simp
   with_reducible rfl
  rotate_left
  ·exact pA
  refine take_ (i := 2) (N := some 5) (v := ?_) (a' := ?_) #[false, true, true, false, true, false, false, true, false, false, false, false, false, false, false, false] rfl rfl (take_ofW HT_.out HW_.out (by kernel_rfl)) (fun _ _ _ h => h) (Or.inl ⟨by kernel_rfl, ?_⟩) hHeld ?_ ?_
  rotate_left
  ·rintro w' ⟨s0, s1, s2, s3, s4, s5, s6, s7, s8, s9, s10⟩
   go_simp
   with_reducible rfl
  rotate_left
  ·exact pA
  refine take_ (i := 5) (N := some 8) (v := ?_) (a' := ?_) #[false, true, true, false, true, true, false, true, false, false, false, false, false, false, false, false] rfl rfl (take_ofW HT_.out HW_.out (by kernel_rfl)) (fun _ _ _ h => h) (Or.inl ⟨by kernel_rfl, ?_⟩) hHeld ?_ ?_
  rotate_left
  ·rintro w' ⟨s0, s1, s2, s3, s4, s5, s6, s7, s8, s9, s10⟩
   go_simp
   with_reducible rfl
  rotate_left
  ·exact pA
  refine take_ (i := 8) (N := some 11) (v := ?_) (a' := ?_) #[false, true, true, false, true, true, false, true, true, false, false, false, false, false, false, false] rfl rfl (take_ofW HT_.out HW_.out (by kernel_rfl)) (fun _ _ _ h => h) (Or.inl ⟨by kernel_rfl, ?_⟩) hHeld ?_ ?_
  rotate_left
  ·rintro w' ⟨s0, s1, s2, s3, s4, s5, s6, s7, s8, s9, s10⟩
   go_simp
   with_reducible rfl
  rotate_left
  ·exact pA
  refine one_ (i := 0) (N := some 3) #[true, true, true, false, true, true, false, true, true, false, false, false, false, false, false, false] rfl rfl (one_of HT_.out (by kernel_rfl)) (by decide) (fun K hK => ?_)
  refine Kd.R_lit_step (Kd.int .i64) _ 3 ?hg (N := 3) ?hd (xs := ([] : List Int)) (inner := []) (ok := fun _ => True) (okp := fun _ => True) ?hr ?hp (fun _ hk => hk) trivial (Below.refl _ _) (Nat.le_refl _) (by simp) ?_; (case hd => rfl); (case hg => rfl); (case hr => first | (go_simp; done) | (go_simp; rfl)); (case hp => exact (Reps.none _ _))
  intro v244 w8 ho9 hb hg_ hnew_
  clear hg_ hnew_
  (first | rw [← Ny243.out] at ho9 | (simp only [Int.reduceToNat] at ho9; rw [← Ny243.out] at ho9))
  have n0_ := Aside0.mk (Kd.R_lower ho9 (below_size pB))
  have n1_ := Aside0.mk (pkb BK241.out hb)
  have n2_ := Aside0.mk (pkb BK242.out hb)
  have n3_ := Aside0.mk (below_step pB hb)
  clear BK241 BK242 HB; have HO245 := n0_; have BK241 := n1_; have BK242 := n2_; have HB := n3_; clear n0_ n1_ n2_ n3_ hb ho9
  refine hK.out _ _ ⟨cz0 BK241.out, cz1 BK241.out, cz2 BK241.out, cz3 BK241.out, cz4 BK241.out, cz5 BK241.out, cz6 BK241.out, cz7 BK241.out, cz8 BK241.out, cz9 BK241.out, cz10 BK241.out⟩ (fun hHeld => ?_)
  clear hK K
  refine norm_ (a' := ?_) ?_ ?_
  rotate_left
  ·show Act.put _ (some 3) _ = _
   exact pA
  refine one_ (i := 3) (N := some 6) #[true, true, true, true, true, true, false, true, true, false, false, false, false, false, false, false] rfl rfl (one_of HT_.out (by kernel_rfl)) (by decide) (fun K hK => ?_)
  refine Kd.R_append_rows_step (Kd.int .i64) (w0 := w) w.heap.size (by rfl) (.tmp 3) (.tmp 5) 23 3 (.int .i64 0) 8 rfl Tryd.underlying23 info3 rfl (by decide) (by omega) v244 y243 l0_2 _ _ _ (fun _ => True) (fun _ => False) rfl rfl ?aO ?aR (fun _ _ h => h) (fun _ h => h.elim) ?aF ?aB ?aS ?aL ?_
  (case aR => exact pC (Kd.C_below HR0_2.out HB.out))
  (case aB => exact pB)
  (case aF => exact (fun _ _ => trivial))
  (case aO => exact (pR HO245.out))
  (case aS => exact (below_size pB))
  (case aL => have := LMc2.out; omega)
  intro v247 w10 ho hb hg hat
  rw [← Ny246.out] at ho
  have n0_ := Aside0.mk (blk_grown (g := gb241) (o := .cells #[.int .u64 a0_0, .int .u64 a0_1, .slice A0_2 l0_2.length c0_2, .int .i64 a0_3, .int .u64 a0_4, .string a0_5, .slice A0_6 l0_6.length c0_6, .int .i64 a0_7, .int .u64 a0_8, .string a0_9, .slice A0_10 l0_10.length c0_10] 28 (0, 0)) (pK BK241.out) hg (pX HO245.out BK241.out))
  have n1_ := Aside0.mk (blk_grown (g := gb242) (o := .cells #[.int .u64 0, .int .u64 0, .slice none 0 0, .int .i64 0, .int .u64 0, .string (⟨#[]⟩ : ByteArray), .slice none 0 0, .int .i64 0, .int .u64 0, .string (⟨#[]⟩ : ByteArray), .slice none 0 0] 28 (0, 0)) (pK BK242.out) hg (pX HO245.out BK242.out))
  have n2_ := Aside0.mk (hb)
  have n3_ := Aside0.mk (ho)
  clear BK241 BK242 HB HO245; have BK241 := n0_; have BK242 := n1_; have HB := n2_; have HO248 := n3_; clear n0_ n1_ n2_ n3_ ho hb hg hat
  refine hK.out _ _ ⟨cz0 BK241.out, cz1 BK241.out, cz2 BK241.out, cz3 BK241.out, cz4 BK241.out, cz5 BK241.out, cz6 BK241.out, cz7 BK241.out, cz8 BK241.out, cz9 BK241.out, cz10 BK241.out⟩ (fun hHeld => ?_)
  clear hK K
  refine norm_ (a' := ?_) ?_ ?_
  rotate_left
  ·show Act.put _ (some 6) _ = _
   exact pA
  refine pure_ (i := 10) (N := some 13) (v := ?_) (a' := ?_) #[true, true, true, true, true, true, false, true, true, false, true, false, false, false, false, false] rfl rfl (any_of HT_.out (by kernel_rfl)) (fun _ _ _ h => h) (Or.inl ⟨by kernel_rfl, ?_⟩) ?_ ?_
  rotate_left
  ·intro w'
   go_simp
   with_reducible rfl
  rotate_left
  ·exact pA
  refine one_ (i := 6) (N := some 9) #[true, true, true, true, true, true, true, true, true, false, true, false, false, false, false, false] rfl rfl (one_of HT_.out (by kernel_rfl)) (by decide) (fun K hK => ?_)
  refine goes_ Tryd.func21 (by kernel_rfl) rfl #[.agg #[.int .i64 a0_3, .int .u64 a0_4, .string a0_5, .slice A0_6 l0_6.length c0_6]] (by rfl) rfl rfl pM ?_
  with_reducible refine (minstrelref07_Own.calls k a0_3 a0_4 a0_5 _ _ l0_6 t249 t250 t251 t252 _ ?side1 ?side2 A3.out).mono ?_
  (case side1 => exact pC (Kd.C_below HR0_6.out HB.out))
  (case side2 => exact HC0_6.out)
  rintro e w11 ⟨v253, rfl, ho0, hb⟩
  refine ⟨_, rfl, ?_⟩
  have n0_ := Aside0.mk (Kd.R_below (pR HO248.out) hb)
  have n1_ := Aside0.mk (Kd.R_lower ho0 (below_size pB))
  have n2_ := Aside0.mk (pkb BK241.out hb)
  have n3_ := Aside0.mk (pkb BK242.out hb)
  have n4_ := Aside0.mk (below_step pB hb)
  clear HO248 BK241 BK242 HB; have HO248 := n0_; have HO254 := n1_; have BK241 := n2_; have BK242 := n3_; have HB := n4_; clear n0_ n1_ n2_ n3_ n4_; (try clear hb); (try clear hb2); (try clear hk); (try clear hi); (try clear ho0)
  refine hK.out _ _ ⟨cz0 BK241.out, cz1 BK241.out, cz2 BK241.out, cz3 BK241.out, cz4 BK241.out, cz5 BK241.out, cz6 BK241.out, cz7 BK241.out, cz8 BK241.out, cz9 BK241.out, cz10 BK241.out⟩ (fun hHeld => ?_)
  clear hK K
  refine norm_ (a' := ?_) ?_ ?_
  rotate_left
  ·show Act.put _ (some 9) _ = _
   exact pA
  refine one_ (i := 9) (N := some 12) #[true, true, true, true, true, true, true, true, true, true, true, false, false, false, false, false] rfl rfl (one_of HT_.out (by kernel_rfl)) (by decide) (fun K hK => ?_)
  refine goes_ Tryd.func21 (by kernel_rfl) rfl #[.agg #[.int .i64 a0_7, .int .u64 a0_8, .string a0_9, .slice A0_10 l0_10.length c0_10]] (by rfl) rfl rfl pM ?_
  with_reducible refine (minstrelref07_Own.calls k a0_7 a0_8 a0_9 _ _ l0_10 t255 t256 t257 t258 _ ?side1 ?side2 A4.out).mono ?_
  (case side1 => exact pC (Kd.C_below HR0_10.out HB.out))
  (case side2 => exact HC0_10.out)
  rintro e w12 ⟨v259, rfl, ho0, hb⟩
  refine ⟨_, rfl, ?_⟩
  have n0_ := Aside0.mk (Kd.R_below (pR HO248.out) hb)
  have n1_ := Aside0.mk (Kd.R_elder' (pR HO254.out) (Kd.R_base ho0) hb)
  have n2_ := Aside0.mk (Kd.R_lower (Kd.R_new' ho0 (Kd.R_lt (pR HO254.out))) (below_size pB))
  have n3_ := Aside0.mk (pkb BK241.out hb)
  have n4_ := Aside0.mk (pkb BK242.out hb)
  have n5_ := Aside0.mk (below_step pB hb)
  clear HO248 HO254 BK241 BK242 HB; have HO248 := n0_; have HO254 := n1_; have HO260 := n2_; have BK241 := n3_; have BK242 := n4_; have HB := n5_; clear n0_ n1_ n2_ n3_ n4_ n5_; (try clear hb); (try clear hb2); (try clear hk); (try clear hi); (try clear ho0)
  obtain ⟨Ao13, co13, eo13⟩ := Kd.R_slice HO248.out
  (first | subst eo13 | (injection eo13 with f1_ f2_ f3_; have f4_ := f1_.symm; have f5_ := f3_.symm; clear f1_ f2_ f3_; subst f4_; subst f5_))
  obtain ⟨Ao18, co18, eo18⟩ := Kd.R_slice HO254.out
  (first | subst eo18 | (injection eo18 with f1_ f2_ f3_; have f4_ := f1_.symm; have f5_ := f3_.symm; clear f1_ f2_ f3_; subst f4_; subst f5_))
  obtain ⟨Ao23, co23, eo23⟩ := Kd.R_slice HO260.out
  (first | subst eo23 | (injection eo23 with f1_ f2_ f3_; have f4_ := f1_.symm; have f5_ := f3_.symm; clear f1_ f2_ f3_; subst f4_; subst f5_))
  refine hK.out _ _ ⟨cz0 BK241.out, cz1 BK241.out, cz2 BK241.out, cz3 BK241.out, cz4 BK241.out, cz5 BK241.out, cz6 BK241.out, cz7 BK241.out, cz8 BK241.out, cz9 BK241.out, cz10 BK241.out⟩ (fun hHeld => ?_)
  clear hK K
  refine norm_ (a' := ?_) ?_ ?_
  rotate_left
  ·show Act.put _ (some 12) _ = _
   exact pA
  refine last_ (i := 11) (N := none) #[true, true, true, true, true, true, true, true, true, true, true, true, false, false, false, false] rfl rfl (one_of HT_.out (by kernel_rfl)) (by decide) (fun K hK => ?_)
  have hs14 : w12.cell? ⟨gb241, 2, none⟩ = some (.slice A0_2 l0_2.length c0_2) := cz2 BK241.out
  have hfs14 := blk_frozen BK241.out 2
  have hns14_1 := NB242_241.out
  have hms14_1 := NB241_242.out
  refine skip_ (w1 := ?_) ?hw rfl ?_ ?_; (case hw => kernel_rfl)
  rotate_left
  ·go_simp
   rfl
  refine hK.out _ _ ?_
  clear hK K
  refine pure_ (i := 12) (N := some 14) (v := ?_) (a' := ?_) #[true, true, true, true, true, true, true, true, true, true, true, true, true, false, false, false] rfl rfl (any_of HT_.out (by kernel_rfl)) (fun _ _ _ h => h) (Or.inl ⟨by kernel_rfl, ?_⟩) ?_ ?_
  rotate_left
  ·intro w'
   go_simp
   with_reducible rfl
  rotate_left
  ·exact pA
  refine last_ (i := 13) (N := none) #[true, true, true, true, true, true, true, true, true, true, true, true, true, true, false, false] rfl rfl (one_of HT_.out (by kernel_rfl)) (by decide) (fun K hK => ?_)
  have hs15 : w12.cell? ⟨gb241, 3, none⟩ = some (.int .i64 a0_3) := cz3 BK241.out
  have hfs15 := blk_frozen BK241.out 3
  have hns15_1 := NB242_241.out
  have hms15_1 := NB241_242.out
  have hs16 : w12.cell? ⟨gb241, 4, none⟩ = some (.int .u64 a0_4) := cz4 BK241.out
  have hfs16 := blk_frozen BK241.out 4
  have hns16_1 := NB242_241.out
  have hms16_1 := NB241_242.out
  have hs17 : w12.cell? ⟨gb241, 5, none⟩ = some (.string a0_5) := cz5 BK241.out
  have hfs17 := blk_frozen BK241.out 5
  have hns17_1 := NB242_241.out
  have hms17_1 := NB241_242.out
  have hs19 : w12.cell? ⟨gb241, 6, none⟩ = some (.slice A0_6 l0_6.length c0_6) := cz6 BK241.out
  have hfs19 := blk_frozen BK241.out 6
  have hns19_1 := NB242_241.out
  have hms19_1 := NB241_242.out
  refine skip_ (w1 := ?_) ?hw rfl ?_ ?_; (case hw => kernel_rfl)
  rotate_left
  ·go_simp
   rfl
  refine hK.out _ _ ?_
  clear hK K
  refine pure_ (i := 14) (N := some 15) (v := ?_) (a' := ?_) #[true, true, true, true, true, true, true, true, true, true, true, true, true, true, true, false] rfl rfl (any_of HT_.out (by kernel_rfl)) (fun _ _ _ h => h) (Or.inl ⟨by kernel_rfl, ?_⟩) ?_ ?_
  rotate_left
  ·intro w'
   go_simp
   with_reducible rfl
  rotate_left
  ·exact pA
  refine last_ (i := 15) (N := none) #[true, true, true, true, true, true, true, true, true, true, true, true, true, true, true, true] rfl rfl (one_of HT_.out (by kernel_rfl)) (by decide) (fun K hK => ?_)
  have hs20 : w12.cell? ⟨gb241, 7, none⟩ = some (.int .i64 a0_7) := cz7 BK241.out
  have hfs20 := blk_frozen BK241.out 7
  have hns20_1 := NB242_241.out
  have hms20_1 := NB241_242.out
  have hs21 : w12.cell? ⟨gb241, 8, none⟩ = some (.int .u64 a0_8) := cz8 BK241.out
  have hfs21 := blk_frozen BK241.out 8
  have hns21_1 := NB242_241.out
  have hms21_1 := NB241_242.out
  have hs22 : w12.cell? ⟨gb241, 9, none⟩ = some (.string a0_9) := cz9 BK241.out
  have hfs22 := blk_frozen BK241.out 9
  have hns22_1 := NB242_241.out
  have hms22_1 := NB241_242.out
  have hs24 : w12.cell? ⟨gb241, 10, none⟩ = some (.slice A0_10 l0_10.length c0_10) := cz10 BK241.out
  have hfs24 := blk_frozen BK241.out 10
  have hns24_1 := NB242_241.out
  have hms24_1 := NB241_242.out
  refine skip_ (w1 := ?_) ?hw rfl ?_ ?_; (case hw => kernel_rfl)
  rotate_left
  ·go_simp
   rfl
  refine hK.out _ _ ?_
  clear hK K
  refine done_ (done_of HT_.out (by kernel_rfl)) ?_
  have hnb25 := NB241_242.out
  have hnc25 := NB242_241.out
  obtain ⟨hcz26_0, hcz26_1, hcz26_2, hcz26_3, hcz26_4, hcz26_5, hcz26_6, hcz26_7, hcz26_8, hcz26_9, hcz26_10, hfz26_0, hfz26_1, hfz26_2, hfz26_3, hfz26_4, hfz26_5, hfz26_6, hfz26_7, hfz26_8, hfz26_9, hfz26_10⟩ := cf11 BK241.out
  obtain ⟨hcz27_0, hcz27_1, hcz27_2, hcz27_3, hcz27_4, hcz27_5, hcz27_6, hcz27_7, hcz27_8, hcz27_9, hcz27_10, hfz27_0, hfz27_1, hfz27_2, hfz27_3, hfz27_4, hfz27_5, hfz27_6, hfz27_7, hfz27_8, hfz27_9, hfz27_10⟩ := cf11 BK242.out
  try go_wp2
  refine bodyPost_ret (results_cell_row rfl _ _ gb242 28 #[.int .u64 a0_0, .int .u64 a0_1, .slice Ao13 y246.length co13, .int .i64 t249, .int .u64 t250, .string t251, .slice Ao18 t252.length co18, .int .i64 t255, .int .u64 t256, .string t257, .slice Ao23 t258.length co23] (0, 0) _ rfl (by (with_reducible repeat (first | refine blk_drewN ?_ _ | refine blk_drew ?_ | refine blk_alloc ?_ _)); refine blk_put (cs := #[.int .u64 a0_0, .int .u64 a0_1, .slice Ao13 y246.length co13, .int .i64 t249, .int .u64 t250, .string t251, .slice Ao18 t252.length co18, .int .i64 t255, .int .u64 t256, .string t257, .slice none 0 0]) ?_ 10 _ rfl; (with_reducible repeat (first | refine blk_drewN ?_ _ | refine blk_drew ?_ | refine blk_alloc ?_ _)); refine blk_put (cs := #[.int .u64 a0_0, .int .u64 a0_1, .slice Ao13 y246.length co13, .int .i64 t249, .int .u64 t250, .string t251, .slice Ao18 t252.length co18, .int .i64 t255, .int .u64 t256, .string (⟨#[]⟩ : ByteArray), .slice none 0 0]) ?_ 9 _ rfl; (with_reducible repeat (first | refine blk_drewN ?_ _ | refine blk_drew ?_ | refine blk_alloc ?_ _)); refine blk_put (cs := #[.int .u64 a0_0, .int .u64 a0_1, .slice Ao13 y246.length co13, .int .i64 t249, .int .u64 t250, .string t251, .slice Ao18 t252.length co18, .int .i64 t255, .int .u64 0, .string (⟨#[]⟩ : ByteArray), .slice none 0 0]) ?_ 8 _ rfl; (with_reducible repeat (first | refine blk_drewN ?_ _ | refine blk_drew ?_ | refine blk_alloc ?_ _)); refine blk_put (cs := #[.int .u64 a0_0, .int .u64 a0_1, .slice Ao13 y246.length co13, .int .i64 t249, .int .u64 t250, .string t251, .slice Ao18 t252.length co18, .int .i64 0, .int .u64 0, .string (⟨#[]⟩ : ByteArray), .slice none 0 0]) ?_ 7 _ rfl; (with_reducible repeat (first | refine blk_drewN ?_ _ | refine blk_drew ?_ | refine blk_alloc ?_ _)); refine blk_put (cs := #[.int .u64 a0_0, .int .u64 a0_1, .slice Ao13 y246.length co13, .int .i64 t249, .int .u64 t250, .string t251, .slice none 0 0, .int .i64 0, .int .u64 0, .string (⟨#[]⟩ : ByteArray), .slice none 0 0]) ?_ 6 _ rfl; (with_reducible repeat (first | refine blk_drewN ?_ _ | refine blk_drew ?_ | refine blk_alloc ?_ _)); refine blk_put (cs := #[.int .u64 a0_0, .int .u64 a0_1, .slice Ao13 y246.length co13, .int .i64 t249, .int .u64 t250, .string (⟨#[]⟩ : ByteArray), .slice none 0 0, .int .i64 0, .int .u64 0, .string (⟨#[]⟩ : ByteArray), .slice none 0 0]) ?_ 5 _ rfl; (with_reducible repeat (first | refine blk_drewN ?_ _ | refine blk_drew ?_ | refine blk_alloc ?_ _)); refine blk_put (cs := #[.int .u64 a0_0, .int .u64 a0_1, .slice Ao13 y246.length co13, .int .i64 t249, .int .u64 0, .string (⟨#[]⟩ : ByteArray), .slice none 0 0, .int .i64 0, .int .u64 0, .string (⟨#[]⟩ : ByteArray), .slice none 0 0]) ?_ 4 _ rfl; (with_reducible repeat (first | refine blk_drewN ?_ _ | refine blk_drew ?_ | refine blk_alloc ?_ _)); refine blk_put (cs := #[.int .u64 a0_0, .int .u64 a0_1, .slice Ao13 y246.length co13, .int .i64 0, .int .u64 0, .string (⟨#[]⟩ : ByteArray), .slice none 0 0, .int .i64 0, .int .u64 0, .string (⟨#[]⟩ : ByteArray), .slice none 0 0]) ?_ 3 _ rfl; (with_reducible repeat (first | refine blk_drewN ?_ _ | refine blk_drew ?_ | refine blk_alloc ?_ _)); refine blk_put (cs := #[.int .u64 a0_0, .int .u64 a0_1, .slice none 0 0, .int .i64 0, .int .u64 0, .string (⟨#[]⟩ : ByteArray), .slice none 0 0, .int .i64 0, .int .u64 0, .string (⟨#[]⟩ : ByteArray), .slice none 0 0]) ?_ 2 _ rfl; (with_reducible repeat (first | refine blk_drewN ?_ _ | refine blk_drew ?_ | refine blk_alloc ?_ _)); refine blk_put (cs := #[.int .u64 a0_0, .int .u64 0, .slice none 0 0, .int .i64 0, .int .u64 0, .string (⟨#[]⟩ : ByteArray), .slice none 0 0, .int .i64 0, .int .u64 0, .string (⟨#[]⟩ : ByteArray), .slice none 0 0]) ?_ 1 _ rfl; (with_reducible repeat (first | refine blk_drewN ?_ _ | refine blk_drew ?_ | refine blk_alloc ?_ _)); refine blk_put (cs := #[.int .u64 0, .int .u64 0, .slice none 0 0, .int .i64 0, .int .u64 0, .string (⟨#[]⟩ : ByteArray), .slice none 0 0, .int .i64 0, .int .u64 0, .string (⟨#[]⟩ : ByteArray), .slice none 0 0]) ?_ 0 _ rfl; (with_reducible repeat (first | refine blk_drewN ?_ _ | refine blk_drew ?_ | refine blk_alloc ?_ _)); refine blk_far ?_ NB242_241.out _; (with_reducible repeat (first | refine blk_drewN ?_ _ | refine blk_drew ?_ | refine blk_alloc ?_ _)); refine blk_far ?_ NB242_241.out _; (with_reducible repeat (first | refine blk_drewN ?_ _ | refine blk_drew ?_ | refine blk_alloc ?_ _)); refine blk_far ?_ NB242_241.out _; (with_reducible repeat (first | refine blk_drewN ?_ _ | refine blk_drew ?_ | refine blk_alloc ?_ _)); refine blk_far ?_ NB242_241.out _; (with_reducible repeat (first | refine blk_drewN ?_ _ | refine blk_drew ?_ | refine blk_alloc ?_ _)); refine blk_far ?_ NB242_241.out _; (with_reducible repeat (first | refine blk_drewN ?_ _ | refine blk_drew ?_ | refine blk_alloc ?_ _)); refine blk_far ?_ NB242_241.out _; (with_reducible repeat (first | refine blk_drewN ?_ _ | refine blk_drew ?_ | refine blk_alloc ?_ _)); refine blk_far ?_ NB242_241.out _; (with_reducible repeat (first | refine blk_drewN ?_ _ | refine blk_drew ?_ | refine blk_alloc ?_ _)); refine blk_far ?_ NB242_241.out _; (with_reducible repeat (first | refine blk_drewN ?_ _ | refine blk_drew ?_ | refine blk_alloc ?_ _)); refine blk_far ?_ NB242_241.out _; (with_reducible repeat (first | refine blk_drewN ?_ _ | refine blk_drew ?_ | refine blk_alloc ?_ _)); exact BK242.out) Tryd.underlying28 rfl (by kernel_rfl)) rfl ?_
  exact ⟨_, _, _, pE, by (with_reducible repeat (first | apply Kd.R_alloc | apply Kd.R_drewN | apply Kd.R_drew)); exact Kd.R_mono (Kd.R_far (p := ⟨gb242, 10, none⟩) (Kd.R_far (p := ⟨gb242, 9, none⟩) (Kd.R_far (p := ⟨gb242, 8, none⟩) (Kd.R_far (p := ⟨gb242, 7, none⟩) (Kd.R_far (p := ⟨gb242, 6, none⟩) (Kd.R_far (p := ⟨gb242, 5, none⟩) (Kd.R_far (p := ⟨gb242, 4, none⟩) (Kd.R_far (p := ⟨gb242, 3, none⟩) (Kd.R_far (p := ⟨gb242, 2, none⟩) (Kd.R_far (p := ⟨gb242, 1, none⟩) (Kd.R_far (p := ⟨gb242, 0, none⟩) (Kd.R_far (p := ⟨gb241, 10, none⟩) (Kd.R_far (p := ⟨gb241, 9, none⟩) (Kd.R_far (p := ⟨gb241, 8, none⟩) (Kd.R_far (p := ⟨gb241, 7, none⟩) (Kd.R_far (p := ⟨gb241, 6, none⟩) (Kd.R_far (p := ⟨gb241, 5, none⟩) (Kd.R_far (p := ⟨gb241, 4, none⟩) (Kd.R_far (p := ⟨gb241, 3, none⟩) (Kd.R_far (p := ⟨gb241, 2, none⟩) (Kd.R_types (Kd.R_types HO248.out BK241.out (by decide)) BK242.out (by decide)) (fun _ hk => hk.1.2) (.slice Ao13 y246.length co13)) (fun _ hk => hk.1.2) (.int .i64 t249)) (fun _ hk => hk.1.2) (.int .u64 t250)) (fun _ hk => hk.1.2) (.string t251)) (fun _ hk => hk.1.2) (.slice Ao18 t252.length co18)) (fun _ hk => hk.1.2) (.int .i64 t255)) (fun _ hk => hk.1.2) (.int .u64 t256)) (fun _ hk => hk.1.2) (.string t257)) (fun _ hk => hk.1.2) (.slice Ao23 t258.length co23)) (fun _ hk => hk.2) (.int .u64 a0_0)) (fun _ hk => hk.2) (.int .u64 a0_1)) (fun _ hk => hk.2) (.slice Ao13 y246.length co13)) (fun _ hk => hk.2) (.int .i64 t249)) (fun _ hk => hk.2) (.int .u64 t250)) (fun _ hk => hk.2) (.string t251)) (fun _ hk => hk.2) (.slice Ao18 t252.length co18)) (fun _ hk => hk.2) (.int .i64 t255)) (fun _ hk => hk.2) (.int .u64 t256)) (fun _ hk => hk.2) (.string t257)) (fun _ hk => hk.2) (.slice Ao23 t258.length co23)) (fun _ hk => trivial), by (with_reducible repeat (first | apply Kd.R_alloc | apply Kd.R_drewN | apply Kd.R_drew)); exact Kd.R_mono (Kd.R_far (p := ⟨gb242, 10, none⟩) (Kd.R_far (p := ⟨gb242, 9, none⟩) (Kd.R_far (p := ⟨gb242, 8, none⟩) (Kd.R_far (p := ⟨gb242, 7, none⟩) (Kd.R_far (p := ⟨gb242, 6, none⟩) (Kd.R_far (p := ⟨gb242, 5, none⟩) (Kd.R_far (p := ⟨gb242, 4, none⟩) (Kd.R_far (p := ⟨gb242, 3, none⟩) (Kd.R_far (p := ⟨gb242, 2, none⟩) (Kd.R_far (p := ⟨gb242, 1, none⟩) (Kd.R_far (p := ⟨gb242, 0, none⟩) (Kd.R_far (p := ⟨gb241, 10, none⟩) (Kd.R_far (p := ⟨gb241, 9, none⟩) (Kd.R_far (p := ⟨gb241, 8, none⟩) (Kd.R_far (p := ⟨gb241, 7, none⟩) (Kd.R_far (p := ⟨gb241, 6, none⟩) (Kd.R_far (p := ⟨gb241, 5, none⟩) (Kd.R_far (p := ⟨gb241, 4, none⟩) (Kd.R_far (p := ⟨gb241, 3, none⟩) (Kd.R_far (p := ⟨gb241, 2, none⟩) (Kd.R_types (Kd.R_types HO254.out BK241.out (by decide)) BK242.out (by decide)) (fun _ hk => hk.1.2) (.slice Ao13 y246.length co13)) (fun _ hk => hk.1.2) (.int .i64 t249)) (fun _ hk => hk.1.2) (.int .u64 t250)) (fun _ hk => hk.1.2) (.string t251)) (fun _ hk => hk.1.2) (.slice Ao18 t252.length co18)) (fun _ hk => hk.1.2) (.int .i64 t255)) (fun _ hk => hk.1.2) (.int .u64 t256)) (fun _ hk => hk.1.2) (.string t257)) (fun _ hk => hk.1.2) (.slice Ao23 t258.length co23)) (fun _ hk => hk.2) (.int .u64 a0_0)) (fun _ hk => hk.2) (.int .u64 a0_1)) (fun _ hk => hk.2) (.slice Ao13 y246.length co13)) (fun _ hk => hk.2) (.int .i64 t249)) (fun _ hk => hk.2) (.int .u64 t250)) (fun _ hk => hk.2) (.string t251)) (fun _ hk => hk.2) (.slice Ao18 t252.length co18)) (fun _ hk => hk.2) (.int .i64 t255)) (fun _ hk => hk.2) (.int .u64 t256)) (fun _ hk => hk.2) (.string t257)) (fun _ hk => hk.2) (.slice Ao23 t258.length co23)) (fun _ hk => hk.1.1.2), by (with_reducible repeat (first | apply Kd.R_alloc | apply Kd.R_drewN | apply Kd.R_drew)); exact Kd.R_mono (Kd.R_far (p := ⟨gb242, 10, none⟩) (Kd.R_far (p := ⟨gb242, 9, none⟩) (Kd.R_far (p := ⟨gb242, 8, none⟩) (Kd.R_far (p := ⟨gb242, 7, none⟩) (Kd.R_far (p := ⟨gb242, 6, none⟩) (Kd.R_far (p := ⟨gb242, 5, none⟩) (Kd.R_far (p := ⟨gb242, 4, none⟩) (Kd.R_far (p := ⟨gb242, 3, none⟩) (Kd.R_far (p := ⟨gb242, 2, none⟩) (Kd.R_far (p := ⟨gb242, 1, none⟩) (Kd.R_far (p := ⟨gb242, 0, none⟩) (Kd.R_far (p := ⟨gb241, 10, none⟩) (Kd.R_far (p := ⟨gb241, 9, none⟩) (Kd.R_far (p := ⟨gb241, 8, none⟩) (Kd.R_far (p := ⟨gb241, 7, none⟩) (Kd.R_far (p := ⟨gb241, 6, none⟩) (Kd.R_far (p := ⟨gb241, 5, none⟩) (Kd.R_far (p := ⟨gb241, 4, none⟩) (Kd.R_far (p := ⟨gb241, 3, none⟩) (Kd.R_far (p := ⟨gb241, 2, none⟩) (Kd.R_types (Kd.R_types HO260.out BK241.out (by decide)) BK242.out (by decide)) (fun _ hk => hk.1.2) (.slice Ao13 y246.length co13)) (fun _ hk => hk.1.2) (.int .i64 t249)) (fun _ hk => hk.1.2) (.int .u64 t250)) (fun _ hk => hk.1.2) (.string t251)) (fun _ hk => hk.1.2) (.slice Ao18 t252.length co18)) (fun _ hk => hk.1.2) (.int .i64 t255)) (fun _ hk => hk.1.2) (.int .u64 t256)) (fun _ hk => hk.1.2) (.string t257)) (fun _ hk => hk.1.2) (.slice Ao23 t258.length co23)) (fun _ hk => hk.2) (.int .u64 a0_0)) (fun _ hk => hk.2) (.int .u64 a0_1)) (fun _ hk => hk.2) (.slice Ao13 y246.length co13)) (fun _ hk => hk.2) (.int .i64 t249)) (fun _ hk => hk.2) (.int .u64 t250)) (fun _ hk => hk.2) (.string t251)) (fun _ hk => hk.2) (.slice Ao18 t252.length co18)) (fun _ hk => hk.2) (.int .i64 t255)) (fun _ hk => hk.2) (.int .u64 t256)) (fun _ hk => hk.2) (.string t257)) (fun _ hk => hk.2) (.slice Ao23 t258.length co23)) (fun _ hk => hk.1.1.2), pB⟩
 ·rw [if_neg c2] at H
  exact absurd H (by simp)
def minstrelref19_Members.l0 : Nat → List Int → Int → Option (Bool)
 | 0, _, _ => none
 | k + 1, x0, x3 => if x3 < (x0.length : Int) then (if 0 ≤ x3 then (if (rd x0 x3) < 1 then (some false) else (if (rd x0 x3) > 64 then (some false) else (if x3 > 0 then (if 0 ≤ (wrap64 (x3 - 1)) then (if (wrap64 (x3 - 1)) < (x0.length : Int) then (if (rd x0 x3) ≤ (rd x0 (wrap64 (x3 - 1))) then (some false) else (minstrelref19_Members.l0 k x0 (wrap64 (x3 + 1)))) else (none)) else (none)) else (minstrelref19_Members.l0 k x0 (wrap64 (x3 + 1)))))) else (none)) else (some (decide ((x0.length : Int) > 0)))
def minstrelref19_Members.f (k : Nat) (l0 : List Int) : Option (Bool) := minstrelref19_Members.l0 k l0 0
theorem minstrelref19_Members.mono_l : ∀ k, (∀ y0 y1, LeO (minstrelref19_Members.l0 k y0 y1) (minstrelref19_Members.l0 (k + 1) y0 y1))
 | 0 => fun _ _ r h => by simp [minstrelref19_Members.l0] at h
 | k + 1 => by
  have ih0 := minstrelref19_Members.mono_l k
  ·intro y0 y1
   unfold minstrelref19_Members.l0
   repeat' first
   | (with_reducible exact ih0 _ _)
   | (with_reducible exact LeO.refl _)
   | (with_reducible exact LeO.none _)
   | (with_reducible refine LeO.ite ?_ ?_)
   | (with_reducible refine LeO.bind ?_ (fun _ => ?_))
   | exact ih0 _ _
   | exact LeO.none _
   | refine LeO.ite ?_ ?_
   | refine LeO.bind ?_ (fun _ => ?_)
theorem minstrelref19_Members.mono : ∀ a0 k, LeO (minstrelref19_Members.f k a0) (minstrelref19_Members.f (k + 1) a0) := by
 intro a0 k
 have ih0 := minstrelref19_Members.mono_l k
 unfold minstrelref19_Members.f
 repeat' first
   | (with_reducible exact ih0 _ _)
   | (with_reducible exact LeO.refl _)
   | (with_reducible exact LeO.none _)
   | (with_reducible refine LeO.ite ?_ ?_)
   | (with_reducible refine LeO.bind ?_ (fun _ => ?_))
   | exact ih0 _ _
   | exact LeO.none _
   | refine LeO.ite ?_ ?_
   | refine LeO.bind ?_ (fun _ => ?_)
set_option maxHeartbeats 8000000 in
set_option maxRecDepth 100000 in
theorem minstrelref19_Members.calls (k : Nat) (A0 : Option Addr) (c0 : Nat) (l0 : List Int) (r : Bool) (w : World) (hr0 : Kd.C (Kd.int .i64) w A0 l0.length l0) (hc0 : l0.length ≤ c0) (h : minstrelref19_Members.f k l0 = some r) :
  Calls Tryd.prog 13 #[.slice A0 l0.length c0] w fun e w' => e = .returned (.bool r) ∧ Drawn0 w w' := by
 have HR0 := Aside0.mk hr0
 have HC0 := Aside0.mk hc0
 clear hr0 hc0
 have H : (minstrelref19_Members.l0 k l0 0) = some r := h
 clear h
 have H' := Aside0.mk H
 clear H
 go_enter Tryd.func13, Tryd.ntmps13
 go_wp2
 repeat (go_quiet (fail); try go_wp2)
 go_loopg [3] k (fun kq v3 w' => ∃ (x3_1 : Int), v3 = .int .i64 x3_1 ∧ Aside0 (minstrelref19_Members.l0 kq l0 x3_1 = some r) ∧ Aside0 (kq ≤ k) ∧ Drawn0 w w')
 case atStart => exact ⟨(0), (by first | rfl | (simp; done) | (simp [*]; done)), H', ⟨Nat.le_refl _⟩, by repeat (first | exact Drawn0.refl _ | apply Drawn0.step)⟩
 case round =>
  clear H'
  try clear c1
  obtain ⟨x3_1, rfl, HA, HK1, ⟨m1, rfl⟩⟩ := hrel
  cases gk with
  | zero => exact absurd HA.out (by simp [minstrelref19_Members.l0])
  | succ k1 =>
   have H := HA.out
   clear HA
   simp only [minstrelref19_Members.l0] at H
   by_cases c2 : x3_1 < (l0.length : Int)
   ·rw [if_pos c2] at H
    have c2b0 : decide (x3_1 < (l0.length : Int)) = true := decide_eq_true c2
    clear c2
    by_cases c3 : 0 ≤ x3_1
    ·rw [if_pos c3] at H
     have c3b0 : decide (0 ≤ x3_1) = true := decide_eq_true c3
     clear c3
     by_cases c4 : (rd l0 x3_1) < 1
     ·rw [if_pos c4] at H
      have c4b0 : decide ((rd l0 x3_1) < 1) = true := decide_eq_true c4
      clear c4
      obtain rfl := Option.some.inj H
      have p261 : 0 ≤ (x3_1 : Int) := pD
      have q261 : x3_1 < (l0.length : Int) := pD
      obtain ⟨ad261, e261, hx261_0⟩ := Kd.at_int HR0.out x3_1 p261 q261
      cases e261
      replace p261 := eq_true p261
      replace q261 := eq_true q261
      go_wp2
      repeat (go_quiet (fail); try go_wp2)
      go_ret
      exact ⟨by first | rfl | (simp; done) | (simp [*]; done), by repeat (first | exact Drawn0.refl _ | apply Drawn0.step)⟩
     ·rw [if_neg c4] at H
      have c4b0 : decide ((rd l0 x3_1) < 1) = false := decide_eq_false c4
      clear c4
      by_cases c5 : (rd l0 x3_1) > 64
      ·rw [if_pos c5] at H
       have c5b0 : decide (64 < (rd l0 x3_1)) = true := decide_eq_true c5
       clear c5
       obtain rfl := Option.some.inj H
       have p261 : 0 ≤ (x3_1 : Int) := pD
       have q261 : x3_1 < (l0.length : Int) := pD
       obtain ⟨ad261, e261, hx261_0⟩ := Kd.at_int HR0.out x3_1 p261 q261
       cases e261
       replace p261 := eq_true p261
       replace q261 := eq_true q261
       have p262 : 0 ≤ (x3_1 : Int) := pD
       have q262 : x3_1 < (l0.length : Int) := pD
       obtain ⟨ad262, e262, hx262_0⟩ := Kd.at_int HR0.out x3_1 p262 q262
       obtain rfl : ad261 = ad262 := (by injection e262)
       replace p262 := eq_true p262
       replace q262 := eq_true q262
       go_wp2
       repeat (go_quiet (fail); try go_wp2)
       go_ret
       exact ⟨by first | rfl | (simp; done) | (simp [*]; done), by repeat (first | exact Drawn0.refl _ | apply Drawn0.step)⟩
      ·rw [if_neg c5] at H
       have c5b0 : decide (64 < (rd l0 x3_1)) = false := decide_eq_false c5
       clear c5
       by_cases c6 : x3_1 > 0
       ·rw [if_pos c6] at H
        have c6b0 : decide (0 < x3_1) = true := decide_eq_true c6
        clear c6
        obtain ⟨ji7, hji7⟩ : ∃ j_ : Int, (wrap64 (x3_1 - 1)) = j_ := ⟨_, rfl⟩
        replace H : (if 0 ≤ (ji7) then (if (ji7) < (l0.length : Int) then (if (rd l0 x3_1) ≤ (rd l0 (ji7)) then (some false) else (minstrelref19_Members.l0 k1 l0 (wrap64 (x3_1 + 1)))) else (none)) else (none)) = some r := by first | (rw [hji7] at H; exact H) | (simp only [hji7] at H ⊢; exact H)
        have hji7w : (IntKind.i64.wrap (x3_1 - 1)) = ji7 := (i64_w _).trans hji7
        by_cases c8 : 0 ≤ (ji7)
        ·rw [if_pos c8] at H
         have c8b0 : decide (0 ≤ (ji7)) = true := decide_eq_true c8
         clear c8
         by_cases c9 : (ji7) < (l0.length : Int)
         ·rw [if_pos c9] at H
          have c9b0 : decide ((ji7) < (l0.length : Int)) = true := decide_eq_true c9
          clear c9
          by_cases c10 : (rd l0 x3_1) ≤ (rd l0 (ji7))
          ·rw [if_pos c10] at H
           have c10b0 : decide ((rd l0 x3_1) ≤ (rd l0 (ji7))) = true := decide_eq_true c10
           clear c10
           obtain rfl := Option.some.inj H
           have p261 : 0 ≤ (x3_1 : Int) := pD
           have q261 : x3_1 < (l0.length : Int) := pD
           obtain ⟨ad261, e261, hx261_0⟩ := Kd.at_int HR0.out x3_1 p261 q261
           cases e261
           replace p261 := eq_true p261
           replace q261 := eq_true q261
           have p262 : 0 ≤ (x3_1 : Int) := pD
           have q262 : x3_1 < (l0.length : Int) := pD
           obtain ⟨ad262, e262, hx262_0⟩ := Kd.at_int HR0.out x3_1 p262 q262
           obtain rfl : ad261 = ad262 := (by injection e262)
           replace p262 := eq_true p262
           replace q262 := eq_true q262
           have p263 : 0 ≤ (x3_1 : Int) := pD
           have q263 : x3_1 < (l0.length : Int) := pD
           obtain ⟨ad263, e263, hx263_0⟩ := Kd.at_int HR0.out x3_1 p263 q263
           obtain rfl : ad261 = ad263 := (by injection e263)
           replace p263 := eq_true p263
           replace q263 := eq_true q263
           have p264 : 0 ≤ ((ji7) : Int) := pD
           have q264 : (ji7) < (l0.length : Int) := pD
           obtain ⟨ad264, e264, hx264_0⟩ := Kd.at_int HR0.out (ji7) p264 q264
           obtain rfl : ad261 = ad264 := (by injection e264)
           replace p264 := eq_true p264
           replace q264 := eq_true q264
           go_wp2
           repeat (go_quiet (fail); try go_wp2)
           go_ret
           exact ⟨by first | rfl | (simp; done) | (simp only [← hji7] <;> (first | rfl | simp)) | (simp [*]; done), by repeat (first | exact Drawn0.refl _ | apply Drawn0.step)⟩
          ·rw [if_neg c10] at H
           have c10b0 : decide ((rd l0 x3_1) ≤ (rd l0 (ji7))) = false := decide_eq_false c10
           clear c10
           have H' := Aside0.mk H
           clear H
           have p261 : 0 ≤ (x3_1 : Int) := pD
           have q261 : x3_1 < (l0.length : Int) := pD
           obtain ⟨ad261, e261, hx261_0⟩ := Kd.at_int HR0.out x3_1 p261 q261
           cases e261
           replace p261 := eq_true p261
           replace q261 := eq_true q261
           have p262 : 0 ≤ (x3_1 : Int) := pD
           have q262 : x3_1 < (l0.length : Int) := pD
           obtain ⟨ad262, e262, hx262_0⟩ := Kd.at_int HR0.out x3_1 p262 q262
           obtain rfl : ad261 = ad262 := (by injection e262)
           replace p262 := eq_true p262
           replace q262 := eq_true q262
           have p263 : 0 ≤ (x3_1 : Int) := pD
           have q263 : x3_1 < (l0.length : Int) := pD
           obtain ⟨ad263, e263, hx263_0⟩ := Kd.at_int HR0.out x3_1 p263 q263
           obtain rfl : ad261 = ad263 := (by injection e263)
           replace p263 := eq_true p263
           replace q263 := eq_true q263
           have p264 : 0 ≤ ((ji7) : Int) := pD
           have q264 : (ji7) < (l0.length : Int) := pD
           obtain ⟨ad264, e264, hx264_0⟩ := Kd.at_int HR0.out (ji7) p264 q264
           obtain rfl : ad261 = ad264 := (by injection e264)
           replace p264 := eq_true p264
           replace q264 := eq_true q264
           go_wp2
           repeat (go_quiet (fail); try go_wp2)
           go_roundg k1
           case measure => have := HK1.out; omega
           case rel => exact ⟨(wrap64 (x3_1 + 1)), (by first | rfl | (simp; done) | (simp [*]; done)), H', ⟨by have := HK1.out; omega⟩, by repeat (first | exact Drawn0.refl _ | apply Drawn0.step)⟩
         ·rw [if_neg c9] at H
          exact absurd H (by simp)
        ·rw [if_neg c8] at H
         exact absurd H (by simp)
       ·rw [if_neg c6] at H
        have c6b0 : decide (0 < x3_1) = false := decide_eq_false c6
        clear c6
        have H' := Aside0.mk H
        clear H
        have p261 : 0 ≤ (x3_1 : Int) := pD
        have q261 : x3_1 < (l0.length : Int) := pD
        obtain ⟨ad261, e261, hx261_0⟩ := Kd.at_int HR0.out x3_1 p261 q261
        cases e261
        replace p261 := eq_true p261
        replace q261 := eq_true q261
        have p262 : 0 ≤ (x3_1 : Int) := pD
        have q262 : x3_1 < (l0.length : Int) := pD
        obtain ⟨ad262, e262, hx262_0⟩ := Kd.at_int HR0.out x3_1 p262 q262
        obtain rfl : ad261 = ad262 := (by injection e262)
        replace p262 := eq_true p262
        replace q262 := eq_true q262
        go_wp2
        repeat (go_quiet (fail); try go_wp2)
        go_roundg k1
        case measure => have := HK1.out; omega
        case rel => exact ⟨(wrap64 (x3_1 + 1)), (by first | rfl | (simp; done) | (simp [*]; done)), H', ⟨by have := HK1.out; omega⟩, by repeat (first | exact Drawn0.refl _ | apply Drawn0.step)⟩
    ·rw [if_neg c3] at H
     exact absurd H (by simp)
   ·rw [if_neg c2] at H
    have c2b0 : decide (x3_1 < (l0.length : Int)) = false := decide_eq_false c2
    clear c2
    obtain rfl := Option.some.inj H
    go_wp2
    repeat (go_quiet (fail); try go_wp2)
    go_ret
    exact ⟨by first | rfl | (simp; done) | (simp [*]; done), by repeat (first | exact Drawn0.refl _ | apply Drawn0.step)⟩
end Go.Proofs.YtlkaffbgekbcfaaDoor.Pr
end
section
namespace Go.Proofs.YtlkaffbgekbcfaaDoor.Pr
open Go.RowKit Go.Proofs.YtlkaffbgekbcfaaDoorW.PrintWords Go.Proofs.YtlkaffbgekbcfaaDoorW.PrintLast Go.Proofs.YtlkaffbgekbcfaaDoorW.PrintMore
attribute [local go_sem] max2_int min2_int max_two min_two max_three min_three max_four min_four
set_option linter.unusedVariables false
set_option linter.unusedSimpArgs false
def minstrelref07_bytes.l0 : Nat → Int → List Int → Int → Option (List Int)
 | 0, _, _, _ => none
 | k + 1, x0, x5, x6 => if x6 ≥ 0 then (if 0 ≤ (IntKind.u64.wrap (wrap64 (8 * x6))) then (if x5.length < 140737488355328 then (minstrelref07_bytes.l0 k x0 (x5 ++ [(Go.bits .and .u64 (shr .u64 x0 (IntKind.u64.wrap (wrap64 (8 * x6)))) 255) % 256]) (wrap64 (x6 - 1))) else (none)) else (none)) else (some x5)
def minstrelref07_bytes.f (k : Nat) (a0 : Int) (a1 : Int) : Option (List Int) := minstrelref07_bytes.l0 k a0 (([] : List Int)) (wrap64 (a1 - 1))
theorem minstrelref07_bytes.mono_l : ∀ k, (∀ y0 y1 y2, LeO (minstrelref07_bytes.l0 k y0 y1 y2) (minstrelref07_bytes.l0 (k + 1) y0 y1 y2))
 | 0 => fun _ _ _ r h => by simp [minstrelref07_bytes.l0] at h
 | k + 1 => by
  have ih0 := minstrelref07_bytes.mono_l k
  ·intro y0 y1 y2
   unfold minstrelref07_bytes.l0
   repeat' first
   | (with_reducible exact ih0 _ _ _)
   | (with_reducible exact LeO.refl _)
   | (with_reducible exact LeO.none _)
   | (with_reducible refine LeO.ite ?_ ?_)
   | (with_reducible refine LeO.bind ?_ (fun _ => ?_))
   | exact ih0 _ _ _
   | exact LeO.none _
   | refine LeO.ite ?_ ?_
   | refine LeO.bind ?_ (fun _ => ?_)
theorem minstrelref07_bytes.mono : ∀ a0 a1 k, LeO (minstrelref07_bytes.f k a0 a1) (minstrelref07_bytes.f (k + 1) a0 a1) := by
 intro a0 a1 k
 have ih0 := minstrelref07_bytes.mono_l k
 unfold minstrelref07_bytes.f
 repeat' first
   | (with_reducible exact ih0 _ _ _)
   | (with_reducible exact LeO.refl _)
   | (with_reducible exact LeO.none _)
   | (with_reducible refine LeO.ite ?_ ?_)
   | (with_reducible refine LeO.bind ?_ (fun _ => ?_))
   | exact ih0 _ _ _
   | exact LeO.none _
   | refine LeO.ite ?_ ?_
   | refine LeO.bind ?_ (fun _ => ?_)
set_option maxHeartbeats 8000000 in
set_option maxRecDepth 100000 in
theorem minstrelref07_bytes.calls (k : Nat) (a0 : Int) (a1 : Int) (r : List Int) (w : World) (h : minstrelref07_bytes.f k a0 a1 = some r) :
  Calls Tryd.prog 61 #[.int .u64 a0, .int .i64 a1] w fun e w' => ∃ v0_ : Value, e = .returned (v0_) ∧ Kd.R (Kd.int .u8) 5 w' w.heap.size (fun _ => True) v0_ r ∧ Below w.heap.size w w' := by
 have HB := Aside0.mk (Below.refl w.heap.size w)
 have H : (minstrelref07_bytes.l0 k a0 (([] : List Int)) (wrap64 (a1 - 1))) = some r := h
 clear h
 obtain ⟨y265, hy265⟩ : ∃ y_ : List Int, y_ = (([] : List Int)) := ⟨_, rfl⟩
 replace H : (minstrelref07_bytes.l0 k a0 y265 (wrap64 (a1 - 1))) = some r := by first | (rw [hy265]; with_reducible exact H) | (have H2_ := (Option.bind_some _ _).symm.trans H; rw [hy265]; with_reducible exact H2_) | (have H2_ := (Option.bind_some _ _).symm.trans H; with_reducible exact H2_) | with_reducible exact H | (rw [hy265]; exact H) | exact H
 have Ny265 := Aside0.mk hy265
 clear hy265
 have H' := Aside0.mk H
 clear H
 go_enter Tryd.func61, Tryd.ntmps61
 go_wp2_with (first | ((with_reducible refine gate_dst (N := 7) rfl ?_); refine Kd.R_lit (Kd.int .u8) _ 5 ?hg (N := 7) ?hd (xs := ([] : List Int)) (inner := []) (ok := fun _ => True) (okp := fun _ => True) ?hr ?hp (fun _ hk => hk) trivial (Below.refl _ _) (Nat.le_refl _) (by simp) ?_; (case hd => rfl); (case hg => rfl); (case hr => first | (go_simp; done) | (go_simp; rfl)); (case hp => exact (Reps.none _ _)); intro v266 w3 ho4 hb hg_ hnew_; clear hg_ hnew_; (first | rw [← Ny265.out] at ho4 | (simp only [Int.reduceToNat] at ho4; rw [← Ny265.out] at ho4)); have n0_ := Aside0.mk (Kd.R_lower ho4 (below_size pB)); have n1_ := Aside0.mk (below_step pB hb); clear HB; have HO267 := n0_; have HB := n1_; clear n0_ n1_; clear hb ho4))
 go_loopg [5, 6] k (fun kq v5 v6 w' => ∃ (x5_1 : List Int) (x6_1 : Int), v6 = .int .i64 x6_1 ∧ Aside0 (minstrelref07_bytes.l0 kq a0 x5_1 x6_1 = some r) ∧ Aside0 (kq ≤ k) ∧ Aside0 (Kd.R (Kd.int .u8) 5 w' w.heap.size (fun _ => True) v5 x5_1) ∧ Aside0 (Below w.heap.size w w'))
 case atStart => exact ⟨(y265), (wrap64 (a1 - 1)), (by first | rfl | (simp; done) | (simp [*]; done)), H', ⟨Nat.le_refl _⟩, ⟨by (with_reducible repeat (first | apply Kd.R_alloc | apply Kd.R_drewN | apply Kd.R_drew)); exact HO267.out⟩, ⟨pB⟩⟩
 case round =>
  clear H'
  try clear p2
  obtain ⟨x5_1, x6_1, rfl, HA, HK1, HO_5, HB⟩ := hrel
  cases gk with
  | zero => exact absurd HA.out (by simp [minstrelref07_bytes.l0])
  | succ k1 =>
   have H := HA.out
   clear HA
   simp only [minstrelref07_bytes.l0] at H
   by_cases c5 : x6_1 ≥ 0
   ·rw [if_pos c5] at H
    have c5b0 : decide (0 ≤ x6_1) = true := decide_eq_true c5
    clear c5
    obtain ⟨ji6, hji6⟩ : ∃ j_ : Int, (IntKind.u64.wrap (wrap64 (8 * x6_1))) = j_ := ⟨_, rfl⟩
    replace H : (if 0 ≤ (ji6) then (if x5_1.length < 140737488355328 then (minstrelref07_bytes.l0 k1 a0 (x5_1 ++ [(Go.bits .and .u64 (shr .u64 a0 (ji6)) 255) % 256]) (wrap64 (x6_1 - 1))) else (none)) else (none)) = some r := by first | (rw [hji6] at H; exact H) | (simp only [hji6] at H ⊢; exact H)
    by_cases c7 : 0 ≤ (ji6)
    ·rw [if_pos c7] at H
     have c7b0 := eq_true c7
     have c7b1 : decide (0 ≤ (ji6)) = true := decide_eq_true c7
     clear c7
     obtain ⟨ji8, hji8⟩ : ∃ j_ : Int, (shr .u64 a0 (ji6)) = j_ := ⟨_, rfl⟩
     replace H : (if x5_1.length < 140737488355328 then (minstrelref07_bytes.l0 k1 a0 (x5_1 ++ [(Go.bits .and .u64 (ji8) 255) % 256]) (wrap64 (x6_1 - 1))) else (none)) = some r := by first | (rw [hji8] at H; exact H) | (simp only [hji8] at H ⊢; exact H)
     have hji8_ : (a0 / 2 ^ min (ji6).toNat 64) = ji8 := hji8
     have hji8z : (ji6) ≤ 64 → (a0 / 2 ^ (ji6).toNat) = ji8 := shr_small hji8
     by_cases c9 : x5_1.length < 140737488355328
     ·rw [if_pos c9] at H
      have LMc9 := Aside0.mk c9
      clear c9
      obtain ⟨y268, hy268⟩ : ∃ y_ : List Int, y_ = (x5_1 ++ [(Go.bits .and .u64 (ji8) 255) % 256]) := ⟨_, rfl⟩
      replace H : (minstrelref07_bytes.l0 k1 a0 y268 (wrap64 (x6_1 - 1))) = some r := by first | (rw [hy268]; with_reducible exact H) | (have H2_ := (Option.bind_some _ _).symm.trans H; rw [hy268]; with_reducible exact H2_) | (have H2_ := (Option.bind_some _ _).symm.trans H; with_reducible exact H2_) | with_reducible exact H | (rw [hy268]; exact H) | exact H
      have Ny268 := Aside0.mk hy268
      clear hy268
      have H' := Aside0.mk H
      clear H
      go_wp2_with (first | ((with_reducible refine gate_builtin (b := .append) (xs := #[.tmp 14, .tmp 22]) rfl ?_); at_builtin; refine Kd.R_append (Kd.int .u8) (w0 := w) w.heap.size rfl (.tmp 14) (.tmp 22) 31 5 (.int .u8 0) 1 rfl Tryd.underlying31 info5 rfl (by decide) (by omega) u5 x5_1 ((Go.bits .and .u64 (ji8) 255) % 256) [.int .u8 ((Go.bits .and .u64 (ji8) 255) % 256)] (fun _ => True) (fun _ => False) rfl rfl ?aP (fun _ hk => hk.elim) ?aF ?aO ?aB ?aS ?aL ?_; (case aP => exact rfl); (case aB => exact pB); (case aF => exact (fun _ _ => trivial)); (case aO => exact (pR HO_5.out)); (case aS => exact (below_size pB)); (case aL => have := LMc9.out; omega); intro v269 w10 ho hb hg hat; rw [← Ny268.out] at ho; have n0_ := Aside0.mk (hb); have n1_ := Aside0.mk (ho); clear HB; clear HO_5; have HB := n0_; have HO270 := n1_; clear n0_ n1_; clear ho hb hg hat))
      go_roundg k1
      case measure => have := HK1.out; omega
      case rel => exact ⟨(y268), (wrap64 (x6_1 - 1)), (by first | rfl | (simp; done) | (simp [*]; done)), H', ⟨by have := HK1.out; omega⟩, ⟨by (with_reducible repeat (first | apply Kd.R_alloc | apply Kd.R_drewN | apply Kd.R_drew)); exact HO270.out⟩, ⟨pB⟩⟩
     ·rw [if_neg c9] at H
      exact absurd H (by simp)
    ·rw [if_neg c7] at H
     exact absurd H (by simp)
   ·rw [if_neg c5] at H
    have c5b0 : decide (0 ≤ x6_1) = false := decide_eq_false c5
    clear c5
    obtain rfl := Option.some.inj H
    go_wp2
    go_ret
    exact ⟨_, pE, by (with_reducible repeat (first | apply Kd.R_alloc | apply Kd.R_drewN | apply Kd.R_drew)); exact HO_5.out, pB⟩
end Go.Proofs.YtlkaffbgekbcfaaDoor.Pr
end
section
namespace Go.Proofs.YtlkaffbgekbcfaaDoor.Pr
open Go.RowKit Go.Proofs.YtlkaffbgekbcfaaDoorW.PrintWords Go.Proofs.YtlkaffbgekbcfaaDoorW.PrintLast Go.Proofs.YtlkaffbgekbcfaaDoorW.PrintMore
attribute [local go_sem] max2_int min2_int max_two min_two max_three min_three max_four min_four
set_option linter.unusedVariables false
set_option linter.unusedSimpArgs false
mutual
def minstrelref07_put.j0 : Nat → List Int → Int → Bool → Int → Int → ByteArray → List (S26) → Option (List Int × Int)
 | 0, _, _, _, _, _, _, _ => none
 | k + 1, x0, x2, x18, x272000, x272001, x272002, x272003 => if x18 = true then (some (([] : List Int), 1)) else (if x272000 = 2 then (minstrelref07_put.j1 k x0 x2 (decide (x2 ≥ 64)) x272000 x272001 x272002 x272003) else (minstrelref07_put.j1 k x0 x2 false x272000 x272001 x272002 x272003))
def minstrelref07_put.j1 : Nat → List Int → Int → Bool → Int → Int → ByteArray → List (S26) → Option (List Int × Int)
 | 0, _, _, _, _, _, _, _ => none
 | k + 1, x0, x2, x25, x272000, x272001, x272002, x272003 => if x25 = true then (some (([] : List Int), 2)) else (if x0.length < 140737488355328 then ((some (x0 ++ [(x272000) % 256] : List Int)).bind fun y272 => (if x272000 = 0 then ((minstrelref07_bytes.f k x272001 8).bind fun t275 => (if y272.length + t275.length < 140737488355328 then (minstrelref07_put.j2 k (y272 ++ t275) x2 x272000 x272001 x272002 x272003) else (none))) else (minstrelref07_put.j2 k y272 x2 x272000 x272001 x272002 x272003))) else (none))
def minstrelref07_put.j2 : Nat → List Int → Int → Int → Int → ByteArray → List (S26) → Option (List Int × Int)
 | 0, _, _, _, _, _, _ => none
 | k + 1, x0, x2, x272000, x272001, x272002, x272003 => if x272000 = 1 then ((minstrelref07_bytes.f k (IntKind.u64.wrap ((x272002.size : Int))) 4).bind fun t281 => (if x0.length + t281.length < 140737488355328 then ((some (x0 ++ t281 : List Int)).bind fun y284 => (if (wrap64 ((y284.length : Int) + (x272002.size : Int))) > 1048576 then (some (([] : List Int), 2)) else (if y284.length + x272002.size < 140737488355328 then (minstrelref07_put.j3 k (y284 ++ bytesOf x272002) x2 x272000 x272001 x272002 x272003) else (none)))) else (none))) else (minstrelref07_put.j3 k x0 x2 x272000 x272001 x272002 x272003)
def minstrelref07_put.j3 : Nat → List Int → Int → Int → Int → ByteArray → List (S26) → Option (List Int × Int)
 | 0, _, _, _, _, _, _ => none
 | k + 1, x0, x2, x272000, x272001, x272002, x272003 => if x272000 = 2 then ((minstrelref07_bytes.f k (IntKind.u64.wrap ((x272003.length : Int))) 4).bind fun t290 => (if x0.length + t290.length < 140737488355328 then (if (x272003.length : Int) > 1048576 then (some (([] : List Int), 2)) else (minstrelref07_put.j4 k (x0 ++ t290) x2 x272000 x272001 x272002 x272003)) else (none))) else (minstrelref07_put.j4 k x0 x2 x272000 x272001 x272002 x272003)
def minstrelref07_put.j4 : Nat → List Int → Int → Int → Int → ByteArray → List (S26) → Option (List Int × Int)
 | 0, _, _, _, _, _, _ => none
 | k + 1, x0, x2, x272000, x272001, x272002, x272003 => if (x0.length : Int) > 1048576 then (some (([] : List Int), 2)) else (minstrelref07_put.l0 k x0 x2 0 x272000 x272001 x272002 x272003)
def minstrelref07_put.l0 : Nat → List Int → Int → Int → Int → Int → ByteArray → List (S26) → Option (List Int × Int)
 | 0, _, _, _, _, _, _, _ => none
 | k + 1, x0, x2, x8, x272000, x272001, x272002, x272003 => if x272000 = 2 then (minstrelref07_put.j6 k x0 x2 x8 (decide (x8 < (x272003.length : Int))) x272000 x272001 x272002 x272003) else (minstrelref07_put.j6 k x0 x2 x8 false x272000 x272001 x272002 x272003)
def minstrelref07_put.j6 : Nat → List Int → Int → Int → Bool → Int → Int → ByteArray → List (S26) → Option (List Int × Int)
 | 0, _, _, _, _, _, _, _, _ => none
 | k + 1, x0, x2, x8, x87, x272000, x272001, x272002, x272003 => if x87 = true then (if 0 ≤ x8 then (if x8 < (x272003.length : Int) then ((minstrelref07_put.f k x0 ((rd_T26 x272003 x8).f0) ((rd_T26 x272003 x8).f1) ((rd_T26 x272003 x8).f2) ((rd_T26 x272003 x8).f3) (wrap64 (x2 + 1))).bind fun bt297 => (if bt297.2 = 0 then (minstrelref07_put.l0 k bt297.1 x2 (wrap64 (x8 + 1)) x272000 x272001 x272002 x272003) else (some (([] : List Int), bt297.2)))) else (none)) else (none)) else (some (x0, 0))
def minstrelref07_put.f : Nat → List Int → Int → Int → ByteArray → List (S26) → Int → Option (List Int × Int)
 | 0, _, _, _, _, _, _ => none
 | k + 1, l0, a1_0, a1_1, a1_2, l1_3, a2 => if a1_0 < 0 then (minstrelref07_put.j0 k l0 a2 true a1_0 a1_1 a1_2 l1_3) else (minstrelref07_put.j0 k l0 a2 (decide (a1_0 > 2)) a1_0 a1_1 a1_2 l1_3)
end
theorem minstrelref07_put.mono_l : ∀ k, (∀ y0 y1 y2 y3 y4 y5, LeO (minstrelref07_put.f k y0 y1 y2 y3 y4 y5) (minstrelref07_put.f (k + 1) y0 y1 y2 y3 y4 y5)) ∧ (∀ y0 y1 y2 y3 y4 y5 y6, LeO (minstrelref07_put.j0 k y0 y1 y2 y3 y4 y5 y6) (minstrelref07_put.j0 (k + 1) y0 y1 y2 y3 y4 y5 y6)) ∧ (∀ y0 y1 y2 y3 y4 y5 y6, LeO (minstrelref07_put.j1 k y0 y1 y2 y3 y4 y5 y6) (minstrelref07_put.j1 (k + 1) y0 y1 y2 y3 y4 y5 y6)) ∧ (∀ y0 y1 y2 y3 y4 y5, LeO (minstrelref07_put.j2 k y0 y1 y2 y3 y4 y5) (minstrelref07_put.j2 (k + 1) y0 y1 y2 y3 y4 y5)) ∧ (∀ y0 y1 y2 y3 y4 y5, LeO (minstrelref07_put.j3 k y0 y1 y2 y3 y4 y5) (minstrelref07_put.j3 (k + 1) y0 y1 y2 y3 y4 y5)) ∧ (∀ y0 y1 y2 y3 y4 y5, LeO (minstrelref07_put.j4 k y0 y1 y2 y3 y4 y5) (minstrelref07_put.j4 (k + 1) y0 y1 y2 y3 y4 y5)) ∧ (∀ y0 y1 y2 y3 y4 y5 y6, LeO (minstrelref07_put.l0 k y0 y1 y2 y3 y4 y5 y6) (minstrelref07_put.l0 (k + 1) y0 y1 y2 y3 y4 y5 y6)) ∧ (∀ y0 y1 y2 y3 y4 y5 y6 y7, LeO (minstrelref07_put.j6 k y0 y1 y2 y3 y4 y5 y6 y7) (minstrelref07_put.j6 (k + 1) y0 y1 y2 y3 y4 y5 y6 y7))
 | 0 => ⟨fun _ _ _ _ _ _ r h => by simp [minstrelref07_put.f] at h, fun _ _ _ _ _ _ _ r h => by simp [minstrelref07_put.j0] at h, fun _ _ _ _ _ _ _ r h => by simp [minstrelref07_put.j1] at h, fun _ _ _ _ _ _ r h => by simp [minstrelref07_put.j2] at h, fun _ _ _ _ _ _ r h => by simp [minstrelref07_put.j3] at h, fun _ _ _ _ _ _ r h => by simp [minstrelref07_put.j4] at h, fun _ _ _ _ _ _ _ r h => by simp [minstrelref07_put.l0] at h, fun _ _ _ _ _ _ _ _ r h => by simp [minstrelref07_put.j6] at h⟩
 | k + 1 => by
  obtain ⟨ih0, ih1, ih2, ih3, ih4, ih5, ih6, ih7⟩ := minstrelref07_put.mono_l k
  refine ⟨?_, ?_, ?_, ?_, ?_, ?_, ?_, ?_⟩
  ·intro y0 y1 y2 y3 y4 y5
   unfold minstrelref07_put.f
   repeat' first
   | (with_reducible exact ih0 _ _ _ _ _ _)
   | (with_reducible exact ih1 _ _ _ _ _ _ _)
   | (with_reducible exact ih2 _ _ _ _ _ _ _)
   | (with_reducible exact ih3 _ _ _ _ _ _)
   | (with_reducible exact ih4 _ _ _ _ _ _)
   | (with_reducible exact ih5 _ _ _ _ _ _)
   | (with_reducible exact ih6 _ _ _ _ _ _ _)
   | (with_reducible exact ih7 _ _ _ _ _ _ _ _)
   | (with_reducible exact minstrelref07_bytes.mono _ _ _)
   | (with_reducible exact LeO.refl _)
   | (with_reducible exact LeO.none _)
   | (with_reducible refine LeO.ite ?_ ?_)
   | (with_reducible refine LeO.bind ?_ (fun _ => ?_))
   | exact ih0 _ _ _ _ _ _
   | exact ih1 _ _ _ _ _ _ _
   | exact ih2 _ _ _ _ _ _ _
   | exact ih3 _ _ _ _ _ _
   | exact ih4 _ _ _ _ _ _
   | exact ih5 _ _ _ _ _ _
   | exact ih6 _ _ _ _ _ _ _
   | exact ih7 _ _ _ _ _ _ _ _
   | exact minstrelref07_bytes.mono _ _ _
   | exact LeO.none _
   | refine LeO.ite ?_ ?_
   | refine LeO.bind ?_ (fun _ => ?_)
  ·intro y0 y1 y2 y3 y4 y5 y6
   unfold minstrelref07_put.j0
   repeat' first
   | (with_reducible exact ih0 _ _ _ _ _ _)
   | (with_reducible exact ih1 _ _ _ _ _ _ _)
   | (with_reducible exact ih2 _ _ _ _ _ _ _)
   | (with_reducible exact ih3 _ _ _ _ _ _)
   | (with_reducible exact ih4 _ _ _ _ _ _)
   | (with_reducible exact ih5 _ _ _ _ _ _)
   | (with_reducible exact ih6 _ _ _ _ _ _ _)
   | (with_reducible exact ih7 _ _ _ _ _ _ _ _)
   | (with_reducible exact minstrelref07_bytes.mono _ _ _)
   | (with_reducible exact LeO.refl _)
   | (with_reducible exact LeO.none _)
   | (with_reducible refine LeO.ite ?_ ?_)
   | (with_reducible refine LeO.bind ?_ (fun _ => ?_))
   | exact ih0 _ _ _ _ _ _
   | exact ih1 _ _ _ _ _ _ _
   | exact ih2 _ _ _ _ _ _ _
   | exact ih3 _ _ _ _ _ _
   | exact ih4 _ _ _ _ _ _
   | exact ih5 _ _ _ _ _ _
   | exact ih6 _ _ _ _ _ _ _
   | exact ih7 _ _ _ _ _ _ _ _
   | exact minstrelref07_bytes.mono _ _ _
   | exact LeO.none _
   | refine LeO.ite ?_ ?_
   | refine LeO.bind ?_ (fun _ => ?_)
  ·intro y0 y1 y2 y3 y4 y5 y6
   unfold minstrelref07_put.j1
   repeat' first
   | (with_reducible exact ih0 _ _ _ _ _ _)
   | (with_reducible exact ih1 _ _ _ _ _ _ _)
   | (with_reducible exact ih2 _ _ _ _ _ _ _)
   | (with_reducible exact ih3 _ _ _ _ _ _)
   | (with_reducible exact ih4 _ _ _ _ _ _)
   | (with_reducible exact ih5 _ _ _ _ _ _)
   | (with_reducible exact ih6 _ _ _ _ _ _ _)
   | (with_reducible exact ih7 _ _ _ _ _ _ _ _)
   | (with_reducible exact minstrelref07_bytes.mono _ _ _)
   | (with_reducible exact LeO.refl _)
   | (with_reducible exact LeO.none _)
   | (with_reducible refine LeO.ite ?_ ?_)
   | (with_reducible refine LeO.bind ?_ (fun _ => ?_))
   | exact ih0 _ _ _ _ _ _
   | exact ih1 _ _ _ _ _ _ _
   | exact ih2 _ _ _ _ _ _ _
   | exact ih3 _ _ _ _ _ _
   | exact ih4 _ _ _ _ _ _
   | exact ih5 _ _ _ _ _ _
   | exact ih6 _ _ _ _ _ _ _
   | exact ih7 _ _ _ _ _ _ _ _
   | exact minstrelref07_bytes.mono _ _ _
   | exact LeO.none _
   | refine LeO.ite ?_ ?_
   | refine LeO.bind ?_ (fun _ => ?_)
  ·intro y0 y1 y2 y3 y4 y5
   unfold minstrelref07_put.j2
   repeat' first
   | (with_reducible exact ih0 _ _ _ _ _ _)
   | (with_reducible exact ih1 _ _ _ _ _ _ _)
   | (with_reducible exact ih2 _ _ _ _ _ _ _)
   | (with_reducible exact ih3 _ _ _ _ _ _)
   | (with_reducible exact ih4 _ _ _ _ _ _)
   | (with_reducible exact ih5 _ _ _ _ _ _)
   | (with_reducible exact ih6 _ _ _ _ _ _ _)
   | (with_reducible exact ih7 _ _ _ _ _ _ _ _)
   | (with_reducible exact minstrelref07_bytes.mono _ _ _)
   | (with_reducible exact LeO.refl _)
   | (with_reducible exact LeO.none _)
   | (with_reducible refine LeO.ite ?_ ?_)
   | (with_reducible refine LeO.bind ?_ (fun _ => ?_))
   | exact ih0 _ _ _ _ _ _
   | exact ih1 _ _ _ _ _ _ _
   | exact ih2 _ _ _ _ _ _ _
   | exact ih3 _ _ _ _ _ _
   | exact ih4 _ _ _ _ _ _
   | exact ih5 _ _ _ _ _ _
   | exact ih6 _ _ _ _ _ _ _
   | exact ih7 _ _ _ _ _ _ _ _
   | exact minstrelref07_bytes.mono _ _ _
   | exact LeO.none _
   | refine LeO.ite ?_ ?_
   | refine LeO.bind ?_ (fun _ => ?_)
  ·intro y0 y1 y2 y3 y4 y5
   unfold minstrelref07_put.j3
   repeat' first
   | (with_reducible exact ih0 _ _ _ _ _ _)
   | (with_reducible exact ih1 _ _ _ _ _ _ _)
   | (with_reducible exact ih2 _ _ _ _ _ _ _)
   | (with_reducible exact ih3 _ _ _ _ _ _)
   | (with_reducible exact ih4 _ _ _ _ _ _)
   | (with_reducible exact ih5 _ _ _ _ _ _)
   | (with_reducible exact ih6 _ _ _ _ _ _ _)
   | (with_reducible exact ih7 _ _ _ _ _ _ _ _)
   | (with_reducible exact minstrelref07_bytes.mono _ _ _)
   | (with_reducible exact LeO.refl _)
   | (with_reducible exact LeO.none _)
   | (with_reducible refine LeO.ite ?_ ?_)
   | (with_reducible refine LeO.bind ?_ (fun _ => ?_))
   | exact ih0 _ _ _ _ _ _
   | exact ih1 _ _ _ _ _ _ _
   | exact ih2 _ _ _ _ _ _ _
   | exact ih3 _ _ _ _ _ _
   | exact ih4 _ _ _ _ _ _
   | exact ih5 _ _ _ _ _ _
   | exact ih6 _ _ _ _ _ _ _
   | exact ih7 _ _ _ _ _ _ _ _
   | exact minstrelref07_bytes.mono _ _ _
   | exact LeO.none _
   | refine LeO.ite ?_ ?_
   | refine LeO.bind ?_ (fun _ => ?_)
  ·intro y0 y1 y2 y3 y4 y5
   unfold minstrelref07_put.j4
   repeat' first
   | (with_reducible exact ih0 _ _ _ _ _ _)
   | (with_reducible exact ih1 _ _ _ _ _ _ _)
   | (with_reducible exact ih2 _ _ _ _ _ _ _)
   | (with_reducible exact ih3 _ _ _ _ _ _)
   | (with_reducible exact ih4 _ _ _ _ _ _)
   | (with_reducible exact ih5 _ _ _ _ _ _)
   | (with_reducible exact ih6 _ _ _ _ _ _ _)
   | (with_reducible exact ih7 _ _ _ _ _ _ _ _)
   | (with_reducible exact minstrelref07_bytes.mono _ _ _)
   | (with_reducible exact LeO.refl _)
   | (with_reducible exact LeO.none _)
   | (with_reducible refine LeO.ite ?_ ?_)
   | (with_reducible refine LeO.bind ?_ (fun _ => ?_))
   | exact ih0 _ _ _ _ _ _
   | exact ih1 _ _ _ _ _ _ _
   | exact ih2 _ _ _ _ _ _ _
   | exact ih3 _ _ _ _ _ _
   | exact ih4 _ _ _ _ _ _
   | exact ih5 _ _ _ _ _ _
   | exact ih6 _ _ _ _ _ _ _
   | exact ih7 _ _ _ _ _ _ _ _
   | exact minstrelref07_bytes.mono _ _ _
   | exact LeO.none _
   | refine LeO.ite ?_ ?_
   | refine LeO.bind ?_ (fun _ => ?_)
  ·intro y0 y1 y2 y3 y4 y5 y6
   unfold minstrelref07_put.l0
   repeat' first
   | (with_reducible exact ih0 _ _ _ _ _ _)
   | (with_reducible exact ih1 _ _ _ _ _ _ _)
   | (with_reducible exact ih2 _ _ _ _ _ _ _)
   | (with_reducible exact ih3 _ _ _ _ _ _)
   | (with_reducible exact ih4 _ _ _ _ _ _)
   | (with_reducible exact ih5 _ _ _ _ _ _)
   | (with_reducible exact ih6 _ _ _ _ _ _ _)
   | (with_reducible exact ih7 _ _ _ _ _ _ _ _)
   | (with_reducible exact minstrelref07_bytes.mono _ _ _)
   | (with_reducible exact LeO.refl _)
   | (with_reducible exact LeO.none _)
   | (with_reducible refine LeO.ite ?_ ?_)
   | (with_reducible refine LeO.bind ?_ (fun _ => ?_))
   | exact ih0 _ _ _ _ _ _
   | exact ih1 _ _ _ _ _ _ _
   | exact ih2 _ _ _ _ _ _ _
   | exact ih3 _ _ _ _ _ _
   | exact ih4 _ _ _ _ _ _
   | exact ih5 _ _ _ _ _ _
   | exact ih6 _ _ _ _ _ _ _
   | exact ih7 _ _ _ _ _ _ _ _
   | exact minstrelref07_bytes.mono _ _ _
   | exact LeO.none _
   | refine LeO.ite ?_ ?_
   | refine LeO.bind ?_ (fun _ => ?_)
  ·intro y0 y1 y2 y3 y4 y5 y6 y7
   unfold minstrelref07_put.j6
   repeat' first
   | (with_reducible exact ih0 _ _ _ _ _ _)
   | (with_reducible exact ih1 _ _ _ _ _ _ _)
   | (with_reducible exact ih2 _ _ _ _ _ _ _)
   | (with_reducible exact ih3 _ _ _ _ _ _)
   | (with_reducible exact ih4 _ _ _ _ _ _)
   | (with_reducible exact ih5 _ _ _ _ _ _)
   | (with_reducible exact ih6 _ _ _ _ _ _ _)
   | (with_reducible exact ih7 _ _ _ _ _ _ _ _)
   | (with_reducible exact minstrelref07_bytes.mono _ _ _)
   | (with_reducible exact LeO.refl _)
   | (with_reducible exact LeO.none _)
   | (with_reducible refine LeO.ite ?_ ?_)
   | (with_reducible refine LeO.bind ?_ (fun _ => ?_))
   | exact ih0 _ _ _ _ _ _
   | exact ih1 _ _ _ _ _ _ _
   | exact ih2 _ _ _ _ _ _ _
   | exact ih3 _ _ _ _ _ _
   | exact ih4 _ _ _ _ _ _
   | exact ih5 _ _ _ _ _ _
   | exact ih6 _ _ _ _ _ _ _
   | exact ih7 _ _ _ _ _ _ _ _
   | exact minstrelref07_bytes.mono _ _ _
   | exact LeO.none _
   | refine LeO.ite ?_ ?_
   | refine LeO.bind ?_ (fun _ => ?_)
theorem minstrelref07_put.mono : ∀ a0 a1 a2 a3 a4 a5 k, LeO (minstrelref07_put.f k a0 a1 a2 a3 a4 a5) (minstrelref07_put.f (k + 1) a0 a1 a2 a3 a4 a5) := by
 intro a0 a1 a2 a3 a4 a5 k
 obtain ⟨ih0, ih1, ih2, ih3, ih4, ih5, ih6, ih7⟩ := minstrelref07_put.mono_l k
 exact ih0 a0 a1 a2 a3 a4 a5
set_option maxHeartbeats 8000000 in
set_option maxRecDepth 100000 in
theorem minstrelref07_put.calls (k : Nat) : ∀ (P0_ : Nat → Prop) (u9000_ : Value) (l0 : List Int) (a1_0 : Int) (a1_1 : Int) (a1_2 : ByteArray) (A1_3 : Option Addr) (c1_3 : Nat) (l1_3 : List (S26)) (a2 : Int) (r1 : List Int) (r2 : Int) (w0 w : World) (hB : Below w0.heap.size w0 w) (ho0 : Kd.R (Kd.int .u8) 5 w w0.heap.size P0_ u9000_ l0) (hr1_3 : Kd.C k26 w0 A1_3 l1_3.length l1_3) (hc1_3 : l1_3.length ≤ c1_3) (h : minstrelref07_put.f k l0 a1_0 a1_1 a1_2 l1_3 a2 = some (r1, r2)),
  Calls Tryd.prog 51 #[u9000_, .agg #[.int .i64 a1_0, .int .u64 a1_1, .string a1_2, .slice A1_3 l1_3.length c1_3], .int .i64 a2] w fun e w' => ∃ v0_ : Value, e = .returned (.tuple #[v0_, .int .i64 r2]) ∧ Kd.R (Kd.int .u8) 5 w' w0.heap.size (fun k_ => (P0_ k_ ∨ w.heap.size ≤ k_)) v0_ r1 ∧ Below w0.heap.size w0 w' ∧ Kept w w' (fun k_ => P0_ k_) := by
 induction k using Nat.strongRecOn with
 | _ k ih =>
 intro P0_ u9000_ l0 a1_0 a1_1 a1_2 A1_3 c1_3 l1_3 a2 r1 r2 w0 w hB ho0 hr1_3 hc1_3 h
 cases k with
 | zero => exact absurd h (by simp [minstrelref07_put.f])
 | succ k =>
 simp only [minstrelref07_put.f] at h
 have hu26 := Tryd.underlying26
 have HO0 := Aside0.mk (show Kd.R (Kd.int .u8) 5 w w0.heap.size (fun k_ => (P0_ k_ ∨ w.heap.size ≤ k_)) u9000_ l0 from Kd.R_mono ho0 (fun k_ hk => (.inl hk)))
 have HR1_3 := Aside0.mk hr1_3
 have HC1_3 := Aside0.mk hc1_3
 clear hr1_3 hc1_3
 have HK := Aside0.mk (Kept.refl w (fun k_ => P0_ k_))
 have HW0 := Aside0.mk hB.size
 have HB := Aside0.mk hB
 clear hB
 have H : (if a1_0 < 0 then (minstrelref07_put.j0 k l0 a2 true a1_0 a1_1 a1_2 l1_3) else (minstrelref07_put.j0 k l0 a2 (decide (a1_0 > 2)) a1_0 a1_1 a1_2 l1_3)) = some (r1, r2) := h
 clear h
 have HC4 := Aside0.mk H
 clear H
 go_enter Tryd.func51, Tryd.ntmps51
 go_upto_region 1 with (first | ((with_reducible refine gate_dst (N := 4) rfl ?_); (try (refine gate_guard (by rfl) ?_; dsimp only)); refine box_event ?hg (N := 4) ?hd (cs := #[.int .i64 a1_0, .int .u64 a1_1, .string a1_2, .slice A1_3 l1_3.length c1_3]) (t := 26) ?hr ?_; (case hd => rfl); (case hg => rfl); (case hr => first | (go_simp; done) | (go_simp; rfl)); intro gb271 hg w5 hbox hb; have n0_ := Aside0.mk (Kd.R_below (pR HO0.out) hb); have n1_ := Aside0.mk (Kept.below (S := (fun k_ => P0_ k_)) (by repeat (first | (with_reducible first | exact HK.out | apply Kept.alloc | apply Kept.drewN | apply Kept.drew) | exact HK.out)) hb); have n2_ := Aside0.mk (below_step pB hb); have n3_ := Aside0.mk (hbox); have n4_ := Aside0.mk ((by rw [hg]; exact (by first | exact HK.out.1 | exact (show Kept w _ (fun k_ => P0_ k_) from by repeat (first | (with_reducible first | exact HK.out | apply Kept.alloc | apply Kept.drewN | apply Kept.drew) | exact HK.out)).1) : w.heap.size ≤ gb271)); have n5_ := Aside0.mk ((by rw [hg]; exact (below_size pB) : w0.heap.size ≤ gb271)); clear HO0; clear HK; clear HB; have HO0 := n0_; have HK := n1_; have HB := n2_; have BK271 := n3_; have GW271 := n4_; have GE271 := n5_; clear n0_ n1_ n2_ n3_ n4_ n5_; clear hb hbox hg))
 (try simp only [Act.put, List.setIfInBounds_toArray, List.set_cons_zero, List.set_cons_succ])
 go_cut [18] (fun v18 wc => ∃ (kq : Nat) (x18_3 : Bool), v18 = .bool x18_3 ∧ Aside0 (minstrelref07_put.j0 kq l0 a2 x18_3 a1_0 a1_1 a1_2 l1_3 = some (r1, r2)) ∧ Aside0 (kq ≤ k) ∧ Aside0 (Kd.R (Kd.int .u8) 5 wc w0.heap.size (fun k_ => (P0_ k_ ∨ w.heap.size ≤ k_)) u9000_ l0) ∧ Aside0 (wc.heap[gb271]? = some (.cells #[.int .i64 a1_0, .int .u64 a1_1, .string a1_2, (.slice A1_3 l1_3.length c1_3)] 26 (0, 0))) ∧ Aside0 (Kept w wc (fun k_ => P0_ k_)) ∧ Aside0 (Below w0.heap.size w0 wc))
 case first =>
  have H := HC4.out
  clear HC4
  by_cases c6 : a1_0 < 0
  ·rw [if_pos c6] at H
   have c6b0 : decide (a1_0 < 0) = true := decide_eq_true c6
   clear c6
   (first | rw [c6b0] | (simp only [i64_w, i32_w]; rw [c6b0]) | rw [c6b1] | (simp only [i64_w, i32_w]; rw [c6b1]) | skip)
   have H' := Aside0.mk H
   clear H
   obtain ⟨hcz7_0, hcz7_1, hcz7_2, hcz7_3, hfz7_0, hfz7_1, hfz7_2, hfz7_3⟩ := cf4 BK271.out
   go_wp2
   go_meet
   case rel => exact ⟨_, (true), (by first | rfl | (simp; done) | (simp [*]; done)), H', ⟨by first | omega | exact Nat.le_refl _⟩, ⟨by (with_reducible repeat (first | apply Kd.R_alloc | apply Kd.R_drewN | apply Kd.R_drew)); exact HO0.out⟩, ⟨by (with_reducible repeat (first | refine blk_drewN ?_ _ | refine blk_drew ?_ | refine blk_alloc ?_ _)); exact BK271.out⟩, ⟨by repeat (first | (with_reducible first | exact HK.out | apply Kept.alloc | apply Kept.drewN | apply Kept.drew | refine Kept.setCell ?_ (.inr GW271.out) _) | exact HK.out)⟩, ⟨pB⟩⟩
  ·rw [if_neg c6] at H
   have c6b0 : decide (a1_0 < 0) = false := decide_eq_false c6
   clear c6
   (first | rw [c6b0] | (simp only [i64_w, i32_w]; rw [c6b0]) | rw [c6b1] | (simp only [i64_w, i32_w]; rw [c6b1]) | skip)
   have H' := Aside0.mk H
   clear H
   obtain ⟨hcz8_0, hcz8_1, hcz8_2, hcz8_3, hfz8_0, hfz8_1, hfz8_2, hfz8_3⟩ := cf4 BK271.out
   go_wp2
   go_meet
   case rel => exact ⟨_, (decide (a1_0 > 2)), (by first | rfl | (simp; done) | (simp [*]; done)), H', ⟨by first | omega | exact Nat.le_refl _⟩, ⟨by (with_reducible repeat (first | apply Kd.R_alloc | apply Kd.R_drewN | apply Kd.R_drew)); exact HO0.out⟩, ⟨by (with_reducible repeat (first | refine blk_drewN ?_ _ | refine blk_drew ?_ | refine blk_alloc ?_ _)); exact BK271.out⟩, ⟨by repeat (first | (with_reducible first | exact HK.out | apply Kept.alloc | apply Kept.drewN | apply Kept.drew | refine Kept.setCell ?_ (.inr GW271.out) _) | exact HK.out)⟩, ⟨pB⟩⟩
 case rest =>
  clear HC4
  try clear c1
  try clear p2
  try clear c5
  try clear c6
  try clear c6b0
  try clear c6b1
  try clear hcz7_0 hcz7_1 hcz7_2 hcz7_3 hcz8_0 hcz8_1 hcz8_2 hcz8_3 hfz7_0 hfz7_1 hfz7_2 hfz7_3 hfz8_0 hfz8_1 hfz8_2 hfz8_3
  obtain ⟨kq, x18_3, rfl, HA, HJ3, HO_0, BK271, HK, HB⟩ := hcut
  cases kq with
  | zero => exact absurd HA.out (by simp [minstrelref07_put.j0])
  | succ kj3 =>
   have H := HA.out
   clear HA
   simp only [minstrelref07_put.j0] at H
   by_cases c9 : x18_3 = true
   ·subst c9
    have H1 : (some (([] : List Int), 1)) = some (r1, r2) := by rw [if_pos rfl] at H; exact H
    clear H
    have H := H1
    clear H1
    simp only [Option.some.injEq, Prod.mk.injEq] at H
    obtain ⟨rfl, rfl⟩ := H
    go_wp2
    go_ret2
    exact ⟨_, pE, pZ, pB, by repeat (first | (with_reducible first | exact HK.out | apply Kept.alloc | apply Kept.drewN | apply Kept.drew | refine Kept.setCell ?_ (.inr GW271.out) _) | exact HK.out)⟩
   ·replace c9 := Bool.eq_false_iff.mpr c9
    subst c9
    have H1 : (if a1_0 = 2 then (minstrelref07_put.j1 kj3 l0 a2 (decide (a2 ≥ 64)) a1_0 a1_1 a1_2 l1_3) else (minstrelref07_put.j1 kj3 l0 a2 false a1_0 a1_1 a1_2 l1_3)) = some (r1, r2) := by rw [if_neg (show ¬ (false = true) by decide)] at H; exact H
    clear H
    have H := H1
    clear H1
    have HC10 := Aside0.mk H
    clear H
    go_upto_region 3 with (fail)
    go_cut [25] (fun v25 wc => ∃ (kq : Nat) (x25_9 : Bool), v25 = .bool x25_9 ∧ Aside0 (minstrelref07_put.j1 kq l0 a2 x25_9 a1_0 a1_1 a1_2 l1_3 = some (r1, r2)) ∧ Aside0 (kq ≤ kj3) ∧ Aside0 (Kd.R (Kd.int .u8) 5 wc w0.heap.size (fun k_ => (P0_ k_ ∨ w.heap.size ≤ k_)) u9000_ l0) ∧ Aside0 (wc.heap[gb271]? = some (.cells #[.int .i64 a1_0, .int .u64 a1_1, .string a1_2, (.slice A1_3 l1_3.length c1_3)] 26 (0, 0))) ∧ Aside0 (Kept w wc (fun k_ => P0_ k_)) ∧ Aside0 (Below w0.heap.size w0 wc))
    case first =>
     have H := HC10.out
     clear HC10
     by_cases c11 : a1_0 = 2
     ·rw [if_pos c11] at H
      have c11b0 : (a1_0 == 2) = true := beq_iff_eq.mpr c11
      have c11b1 : (a1_0 != 2) = false := bne_eq_false_iff_eq.mpr c11
      clear c11
      (first | rw [c11b0] | (simp only [i64_w, i32_w]; rw [c11b0]) | rw [c11b1] | (simp only [i64_w, i32_w]; rw [c11b1]) | skip)
      have H' := Aside0.mk H
      clear H
      obtain ⟨hcz12_0, hcz12_1, hcz12_2, hcz12_3, hfz12_0, hfz12_1, hfz12_2, hfz12_3⟩ := cf4 BK271.out
      go_wp2
      go_meet
      case rel => exact ⟨_, (decide (a2 ≥ 64)), (by first | rfl | (simp; done) | (simp [*]; done)), H', ⟨by have := HJ3.out; first | omega | exact Nat.le_refl _⟩, ⟨by (with_reducible repeat (first | apply Kd.R_alloc | apply Kd.R_drewN | apply Kd.R_drew)); exact HO_0.out⟩, ⟨by (with_reducible repeat (first | refine blk_drewN ?_ _ | refine blk_drew ?_ | refine blk_alloc ?_ _)); exact BK271.out⟩, ⟨by repeat (first | (with_reducible first | exact HK.out | apply Kept.alloc | apply Kept.drewN | apply Kept.drew | refine Kept.setCell ?_ (.inr GW271.out) _) | exact HK.out)⟩, ⟨pB⟩⟩
     ·rw [if_neg c11] at H
      have c11b0 : (a1_0 == 2) = false := beq_eq_false_iff_ne.mpr c11
      have c11b1 : (a1_0 != 2) = true := bne_iff_ne.mpr c11
      (first | rw [c11b0] | (simp only [i64_w, i32_w]; rw [c11b0]) | rw [c11b1] | (simp only [i64_w, i32_w]; rw [c11b1]) | skip)
      have H' := Aside0.mk H
      clear H
      obtain ⟨hcz13_0, hcz13_1, hcz13_2, hcz13_3, hfz13_0, hfz13_1, hfz13_2, hfz13_3⟩ := cf4 BK271.out
      go_wp2
      go_meet
      case rel => exact ⟨_, (false), (by first | rfl | (simp; done) | (simp [*]; done)), H', ⟨by have := HJ3.out; first | omega | exact Nat.le_refl _⟩, ⟨by (with_reducible repeat (first | apply Kd.R_alloc | apply Kd.R_drewN | apply Kd.R_drew)); exact HO_0.out⟩, ⟨by (with_reducible repeat (first | refine blk_drewN ?_ _ | refine blk_drew ?_ | refine blk_alloc ?_ _)); exact BK271.out⟩, ⟨by repeat (first | (with_reducible first | exact HK.out | apply Kept.alloc | apply Kept.drewN | apply Kept.drew | refine Kept.setCell ?_ (.inr GW271.out) _) | exact HK.out)⟩, ⟨pB⟩⟩
    case rest =>
     clear HC10
     try clear c1
     try clear p2
     try clear c5
     try clear c6
     try clear c6b0
     try clear c6b1
     try clear c9
     try clear c11
     try clear c11b0
     try clear c11b1
     try clear hcz12_0 hcz12_1 hcz12_2 hcz12_3 hcz13_0 hcz13_1 hcz13_2 hcz13_3 hcz7_0 hcz7_1 hcz7_2 hcz7_3 hcz8_0 hcz8_1 hcz8_2 hcz8_3 hfz12_0 hfz12_1 hfz12_2 hfz12_3 hfz13_0 hfz13_1 hfz13_2 hfz13_3 hfz7_0 hfz7_1 hfz7_2 hfz7_3 hfz8_0 hfz8_1 hfz8_2 hfz8_3
     try clear p2
     obtain ⟨kq, x25_9, rfl, HA, HJ9, HO_0, BK271, HK, HB⟩ := hcut
     cases kq with
     | zero => exact absurd HA.out (by simp [minstrelref07_put.j1])
     | succ kj9 =>
      have H := HA.out
      clear HA
      simp only [minstrelref07_put.j1] at H
      by_cases c14 : x25_9 = true
      ·subst c14
       have H1 : (some (([] : List Int), 2)) = some (r1, r2) := by rw [if_pos rfl] at H; exact H
       clear H
       have H := H1
       clear H1
       simp only [Option.some.injEq, Prod.mk.injEq] at H
       obtain ⟨rfl, rfl⟩ := H
       go_wp2
       go_ret2
       exact ⟨_, pE, pZ, pB, by repeat (first | (with_reducible first | exact HK.out | apply Kept.alloc | apply Kept.drewN | apply Kept.drew | refine Kept.setCell ?_ (.inr GW271.out) _) | exact HK.out)⟩
      ·replace c14 := Bool.eq_false_iff.mpr c14
       subst c14
       have H1 : (if l0.length < 140737488355328 then ((some (l0 ++ [(a1_0) % 256] : List Int)).bind fun y272 => (if a1_0 = 0 then ((minstrelref07_bytes.f kj9 a1_1 8).bind fun t275 => (if y272.length + t275.length < 140737488355328 then (minstrelref07_put.j2 kj9 (y272 ++ t275) a2 a1_0 a1_1 a1_2 l1_3) else (none))) else (minstrelref07_put.j2 kj9 y272 a2 a1_0 a1_1 a1_2 l1_3))) else (none)) = some (r1, r2) := by rw [if_neg (show ¬ (false = true) by decide)] at H; exact H
       clear H
       have H := H1
       clear H1
       by_cases c15 : l0.length < 140737488355328
       ·rw [if_pos c15] at H
        have LMc15 := Aside0.mk c15
        clear c15
        obtain ⟨y272, hy272⟩ : ∃ y_ : List Int, y_ = (l0 ++ [(a1_0) % 256]) := ⟨_, rfl⟩
        replace H : (if a1_0 = 0 then ((minstrelref07_bytes.f kj9 a1_1 8).bind fun t275 => (if y272.length + t275.length < 140737488355328 then (minstrelref07_put.j2 kj9 (y272 ++ t275) a2 a1_0 a1_1 a1_2 l1_3) else (none))) else (minstrelref07_put.j2 kj9 y272 a2 a1_0 a1_1 a1_2 l1_3)) = some (r1, r2) := by first | (rw [hy272]; with_reducible exact H) | (have H2_ := (Option.bind_some _ _).symm.trans H; rw [hy272]; with_reducible exact H2_) | (have H2_ := (Option.bind_some _ _).symm.trans H; with_reducible exact H2_) | with_reducible exact H | (rw [hy272]; exact H) | exact H
        have Ny272 := Aside0.mk hy272
        clear hy272
        have HC16 := Aside0.mk H
        clear H
        obtain ⟨hcz17_0, hcz17_1, hcz17_2, hcz17_3, hfz17_0, hfz17_1, hfz17_2, hfz17_3⟩ := cf4 BK271.out
        go_upto_if 34 with (first | ((with_reducible refine gate_builtin (b := .append) (xs := #[.tmp 26, .tmp 30]) rfl ?_); (try (refine gate_guard (by rfl) ?_; dsimp only)); at_builtin; refine Kd.R_append (Kd.int .u8) (w0 := w0) w0.heap.size rfl (.tmp 26) (.tmp 30) 31 5 (.int .u8 0) 1 rfl Tryd.underlying31 info5 rfl (by decide) (by omega) u9000_ l0 ((a1_0) % 256) [.int .u8 ((a1_0) % 256)] (fun k_ => (P0_ k_ ∨ w.heap.size ≤ k_)) (fun _ => False) rfl rfl ?aP (fun _ hk => hk.elim) ?aF ?aO ?aB ?aS ?aL ?_; (case aP => exact rfl); (case aB => exact pB); (case aF => exact (fun k_ hk => (.inr (Nat.le_trans (by first | exact HK.out.1 | exact (show Kept w _ (fun k_ => P0_ k_) from by repeat (first | (with_reducible first | exact HK.out | apply Kept.alloc | apply Kept.drewN | apply Kept.drew | refine Kept.setCell ?_ (.inr GW271.out) _) | exact HK.out)).1) hk)))); (case aO => exact (pR HO_0.out)); (case aS => exact (below_size pB)); (case aL => have := LMc15.out; omega); intro v273 w18 ho hb hg hat; rw [← Ny272.out] at ho; have n0_ := Aside0.mk (blk_grown (g := gb271) (o := .cells #[.int .i64 a1_0, .int .u64 a1_1, .string a1_2, .slice A1_3 l1_3.length c1_3] 26 (0, 0)) (pK BK271.out) hg (pX HO_0.out BK271.out)); have n1_ := Aside0.mk (hb); have n2_ := Aside0.mk (Kept.of_grown (S := (fun k_ => P0_ k_)) hg (by repeat (first | (with_reducible first | exact HK.out | apply Kept.alloc | apply Kept.drewN | apply Kept.drew | refine Kept.setCell ?_ (.inr GW271.out) _) | exact HK.out)) (fun k_ e_ => (HO_0.out.1 k_ e_))); have n3_ := Aside0.mk (ho); clear BK271; clear HB; clear HK; clear HO_0; have BK271 := n0_; have HB := n1_; have HK := n2_; have HO274 := n3_; clear n0_ n1_ n2_ n3_; clear ho hb hg hat; obtain ⟨hcz19_0, hcz19_1, hcz19_2, hcz19_3, hfz19_0, hfz19_1, hfz19_2, hfz19_3⟩ := cf4 BK271.out))
        (try simp only [Act.put, List.setIfInBounds_toArray, List.set_cons_zero, List.set_cons_succ])
        go_cut [0] (fun v0 wc => ∃ (kq : Nat) (x0_15 : List Int), Aside0 (minstrelref07_put.j2 kq x0_15 a2 a1_0 a1_1 a1_2 l1_3 = some (r1, r2)) ∧ Aside0 (kq ≤ kj9) ∧ Aside0 (Kd.R (Kd.int .u8) 5 wc w0.heap.size (fun k_ => (P0_ k_ ∨ w.heap.size ≤ k_)) v0 x0_15) ∧ Aside0 (wc.heap[gb271]? = some (.cells #[.int .i64 a1_0, .int .u64 a1_1, .string a1_2, (.slice A1_3 l1_3.length c1_3)] 26 (0, 0))) ∧ Aside0 (Kept w wc (fun k_ => P0_ k_)) ∧ Aside0 (Below w0.heap.size w0 wc))
        case first =>
         have H := HC16.out
         clear HC16
         by_cases c20 : a1_0 = 0
         ·rw [if_pos c20] at H
          have c20b0 : (a1_0 == 0) = true := beq_iff_eq.mpr c20
          have c20b1 : (a1_0 != 0) = false := bne_eq_false_iff_eq.mpr c20
          clear c20
          (first | rw [c20b0] | (simp only [i64_w, i32_w]; rw [c20b0]) | rw [c20b1] | (simp only [i64_w, i32_w]; rw [c20b1]) | skip)
          replace H := Option.bind_eq_some_iff.mp H
          obtain ⟨t275, A210, H⟩ := H
          replace H : (if y272.length + t275.length < 140737488355328 then (minstrelref07_put.j2 kj9 (y272 ++ t275) a2 a1_0 a1_1 a1_2 l1_3) else (none)) = some (r1, r2) := H
          have A21 := Aside0.mk A210
          clear A210
          by_cases c22 : y272.length + t275.length < 140737488355328
          ·rw [if_pos c22] at H
           have LMc22 := Aside0.mk c22
           clear c22
           obtain ⟨y278, hy278⟩ : ∃ y_ : List Int, y_ = (y272 ++ t275) := ⟨_, rfl⟩
           replace H : (minstrelref07_put.j2 kj9 y278 a2 a1_0 a1_1 a1_2 l1_3) = some (r1, r2) := by first | (rw [hy278]; with_reducible exact H) | (have H2_ := (Option.bind_some _ _).symm.trans H; rw [hy278]; with_reducible exact H2_) | (have H2_ := (Option.bind_some _ _).symm.trans H; with_reducible exact H2_) | with_reducible exact H | (rw [hy278]; exact H) | exact H
           have Ny278 := Aside0.mk hy278
           clear hy278
           have H' := Aside0.mk H
           clear H
           obtain ⟨hcz23_0, hcz23_1, hcz23_2, hcz23_3, hfz23_0, hfz23_1, hfz23_2, hfz23_3⟩ := cf4 BK271.out
           go_wp2_with (first | ((with_reducible refine gate_callee (f := 61) rfl ?_); refine goesL_ (some 38) rfl rfl Tryd.func61 (by kernel_rfl) rfl #[.int .u64 a1_1, .int .i64 8] rfl pM ?_; (with_reducible refine (minstrelref07_bytes.calls kj9 a1_1 8 t275 _ A21.out).mono ?_); rintro e w24 ⟨v276, rfl, ho0, hb⟩; refine ⟨_, rfl, ?_⟩; have n0_ := Aside0.mk (Kd.R_elder' (pR HO274.out) (Kd.R_base ho0) hb); have n1_ := Aside0.mk (Kd.R_lower (Kd.R_new' (Kd.R_newM (M := fun k_ => (P0_ k_ ∨ w.heap.size ≤ k_)) ho0 (by first | exact HK.out.1 | exact (show Kept w _ (fun k_ => P0_ k_) from by repeat (first | (with_reducible first | exact HK.out | apply Kept.alloc | apply Kept.drewN | apply Kept.drew | refine Kept.setCell ?_ (.inr GW271.out) _) | exact HK.out)).1) (fun k_ h_ => .inr h_)) (Kd.R_lt (pR HO274.out))) (below_size pB)); have n2_ := Aside0.mk (pkb BK271.out hb); have n3_ := Aside0.mk (Kept.below (S := (fun k_ => P0_ k_)) (by repeat (first | (with_reducible first | exact HK.out | apply Kept.alloc | apply Kept.drewN | apply Kept.drew | refine Kept.setCell ?_ (.inr GW271.out) _) | exact HK.out)) hb); have n4_ := Aside0.mk (below_step pB hb); clear HO274; clear BK271; clear HK; clear HB; have HO274 := n0_; have HO277 := n1_; have BK271 := n2_; have HK := n3_; have HB := n4_; clear n0_ n1_ n2_ n3_ n4_; (try clear hb); (try clear hb2); (try clear hk); (try clear hi); (try clear ho0); obtain ⟨Ao26, co26, eo26⟩ := Kd.R_slice HO277.out; subst eo26) | ((with_reducible refine gate_builtin (b := .append) (xs := #[.tmp 35, .tmp 38]) rfl ?_); (try (refine gate_guard (by rfl) ?_; dsimp only)); at_builtin; refine Kd.R_append_rows (Kd.int .u8) (w0 := w0) w0.heap.size rfl (.tmp 35) (.tmp 38) 31 5 (.int .u8 0) 1 rfl Tryd.underlying31 info5 rfl (by decide) (by omega) v273 y272 t275 _ _ _ (fun k_ => (P0_ k_ ∨ w.heap.size ≤ k_) ∧ some k_ ≠ (.slice Ao26 t275.length co26 : Value).ownBlock) (fun _ => False) rfl rfl ?aO ?aR (fun _ _ h => h) (fun _ h => h.elim) ?aF ?aB ?aS ?aL ?_; (case aR => repeat (first | exact (Kd.R_reads' HO277.out).2.2 | (with_reducible refine Kd.C_alloc ?_ _) | (with_reducible refine Kd.C_drewN ?_ _) | (with_reducible refine Kd.C_drew ?_))); (case aB => exact pB); (case aF => exact (fun k_ hk => ⟨(.inr (Nat.le_trans (by first | exact HK.out.1 | exact (show Kept w _ (fun k_ => P0_ k_) from by repeat (first | (with_reducible first | exact HK.out | apply Kept.alloc | apply Kept.drewN | apply Kept.drew | refine Kept.setCell ?_ (.inr GW271.out) _) | exact HK.out)).1) hk)), Kd.fresh' (Kd.R_lt (pR HO277.out)) k_ hk⟩)); (case aO => exact (pR HO274.out)); (case aS => exact (below_size pB)); (case aL => have := LMc22.out; omega); intro v279 w25 ho hb hg hat; rw [← Ny278.out] at ho; have n0_ := Aside0.mk (blk_grown (g := gb271) (o := .cells #[.int .i64 a1_0, .int .u64 a1_1, .string a1_2, .slice A1_3 l1_3.length c1_3] 26 (0, 0)) (pK BK271.out) hg (pX HO274.out BK271.out)); have n1_ := Aside0.mk (Kd.R_after (ok := (fun k_ => (P0_ k_ ∨ w.heap.size ≤ k_))) (by (with_reducible repeat (first | apply Kd.R_alloc | apply Kd.R_drewN | apply Kd.R_drew)); exact Kd.R_mono HO277.out (fun _ hk => ⟨hk.1.1, hk.2⟩)) hg hat); have n2_ := Aside0.mk (hb); have n3_ := Aside0.mk (Kept.of_grown (S := (fun k_ => P0_ k_)) hg (by repeat (first | (with_reducible first | exact HK.out | apply Kept.alloc | apply Kept.drewN | apply Kept.drew | refine Kept.setCell ?_ (.inr GW271.out) _) | exact HK.out)) (fun k_ e_ => (HO274.out.1 k_ e_).1)); have n4_ := Aside0.mk (ho); clear BK271; clear HO277; clear HB; clear HK; clear HO274; have BK271 := n0_; have HO277 := n1_; have HB := n2_; have HK := n3_; have HO280 := n4_; clear n0_ n1_ n2_ n3_ n4_; clear ho hb hg hat))
           go_meet
           case rel => exact ⟨_, (y278), H', ⟨by have := HJ3.out; have := HJ9.out; first | omega | exact Nat.le_refl _⟩, ⟨by (with_reducible repeat (first | apply Kd.R_alloc | apply Kd.R_drewN | apply Kd.R_drew)); exact Kd.R_mono HO280.out (fun _ hk => hk.1)⟩, ⟨by (with_reducible repeat (first | refine blk_drewN ?_ _ | refine blk_drew ?_ | refine blk_alloc ?_ _)); exact BK271.out⟩, ⟨by repeat (first | (with_reducible first | exact HK.out | apply Kept.alloc | apply Kept.drewN | apply Kept.drew | refine Kept.setCell ?_ (.inr GW271.out) _) | exact HK.out)⟩, ⟨pB⟩⟩
          ·rw [if_neg c22] at H
           exact absurd H (by simp)
         ·rw [if_neg c20] at H
          have c20b0 : (a1_0 == 0) = false := beq_eq_false_iff_ne.mpr c20
          have c20b1 : (a1_0 != 0) = true := bne_iff_ne.mpr c20
          (first | rw [c20b0] | (simp only [i64_w, i32_w]; rw [c20b0]) | rw [c20b1] | (simp only [i64_w, i32_w]; rw [c20b1]) | skip)
          have H' := Aside0.mk H
          clear H
          go_wp2
          go_meet
          case rel => exact ⟨_, (y272), H', ⟨by have := HJ3.out; have := HJ9.out; first | omega | exact Nat.le_refl _⟩, ⟨by (with_reducible repeat (first | apply Kd.R_alloc | apply Kd.R_drewN | apply Kd.R_drew)); exact HO274.out⟩, ⟨by (with_reducible repeat (first | refine blk_drewN ?_ _ | refine blk_drew ?_ | refine blk_alloc ?_ _)); exact BK271.out⟩, ⟨by repeat (first | (with_reducible first | exact HK.out | apply Kept.alloc | apply Kept.drewN | apply Kept.drew | refine Kept.setCell ?_ (.inr GW271.out) _) | exact HK.out)⟩, ⟨pB⟩⟩
        case rest =>
         clear HC16
         try clear c1
         try clear c2
         try clear p2
         try clear c5
         try clear c6
         try clear c6b0
         try clear c6b1
         try clear c9
         try clear c11
         try clear c11b0
         try clear c11b1
         try clear c14
         try clear c15
         try clear c20
         try clear c20b0
         try clear c20b1
         try clear c22
         try clear hcz12_0 hcz12_1 hcz12_2 hcz12_3 hcz13_0 hcz13_1 hcz13_2 hcz13_3 hcz17_0 hcz17_1 hcz17_2 hcz17_3 hcz19_0 hcz19_1 hcz19_2 hcz19_3 hcz23_0 hcz23_1 hcz23_2 hcz23_3 hcz7_0 hcz7_1 hcz7_2 hcz7_3 hcz8_0 hcz8_1 hcz8_2 hcz8_3 hfz12_0 hfz12_1 hfz12_2 hfz12_3 hfz13_0 hfz13_1 hfz13_2 hfz13_3 hfz17_0 hfz17_1 hfz17_2 hfz17_3 hfz19_0 hfz19_1 hfz19_2 hfz19_3 hfz23_0 hfz23_1 hfz23_2 hfz23_3 hfz7_0 hfz7_1 hfz7_2 hfz7_3 hfz8_0 hfz8_1 hfz8_2 hfz8_3
         try clear p2
         obtain ⟨kq, x0_15, HA, HJ15, HO_0, BK271, HK, HB⟩ := hcut
         cases kq with
         | zero => exact absurd HA.out (by simp [minstrelref07_put.j2])
         | succ kj15 =>
          have H := HA.out
          clear HA
          simp only [minstrelref07_put.j2] at H
          have HC27 := Aside0.mk H
          clear H
          obtain ⟨hcz28_0, hcz28_1, hcz28_2, hcz28_3, hfz28_0, hfz28_1, hfz28_2, hfz28_3⟩ := cf4 BK271.out
          go_upto_if 42 with (fail)
          go_cut [0] (fun v0 wc => ∃ (kq : Nat) (x0_26 : List Int), Aside0 (minstrelref07_put.j3 kq x0_26 a2 a1_0 a1_1 a1_2 l1_3 = some (r1, r2)) ∧ Aside0 (kq ≤ kj15) ∧ Aside0 (Kd.R (Kd.int .u8) 5 wc w0.heap.size (fun k_ => (P0_ k_ ∨ w.heap.size ≤ k_)) v0 x0_26) ∧ Aside0 (wc.heap[gb271]? = some (.cells #[.int .i64 a1_0, .int .u64 a1_1, .string a1_2, (.slice A1_3 l1_3.length c1_3)] 26 (0, 0))) ∧ Aside0 (Kept w wc (fun k_ => P0_ k_)) ∧ Aside0 (Below w0.heap.size w0 wc))
          case first =>
           have H := HC27.out
           clear HC27
           by_cases c29 : a1_0 = 1
           ·rw [if_pos c29] at H
            have c29b0 : (a1_0 == 1) = true := beq_iff_eq.mpr c29
            have c29b1 : (a1_0 != 1) = false := bne_eq_false_iff_eq.mpr c29
            clear c29
            (first | rw [c29b0] | (simp only [i64_w, i32_w]; rw [c29b0]) | rw [c29b1] | (simp only [i64_w, i32_w]; rw [c29b1]) | skip)
            replace H := Option.bind_eq_some_iff.mp H
            obtain ⟨t281, A300, H⟩ := H
            replace H : (if x0_15.length + t281.length < 140737488355328 then ((some (x0_15 ++ t281 : List Int)).bind fun y284 => (if (wrap64 ((y284.length : Int) + (a1_2.size : Int))) > 1048576 then (some (([] : List Int), 2)) else (if y284.length + a1_2.size < 140737488355328 then (minstrelref07_put.j3 kj15 (y284 ++ bytesOf a1_2) a2 a1_0 a1_1 a1_2 l1_3) else (none)))) else (none)) = some (r1, r2) := H
            have A30 := Aside0.mk A300
            clear A300
            by_cases c31 : x0_15.length + t281.length < 140737488355328
            ·rw [if_pos c31] at H
             have LMc31 := Aside0.mk c31
             clear c31
             obtain ⟨y284, hy284⟩ : ∃ y_ : List Int, y_ = (x0_15 ++ t281) := ⟨_, rfl⟩
             replace H : (if (wrap64 ((y284.length : Int) + (a1_2.size : Int))) > 1048576 then (some (([] : List Int), 2)) else (if y284.length + a1_2.size < 140737488355328 then (minstrelref07_put.j3 kj15 (y284 ++ bytesOf a1_2) a2 a1_0 a1_1 a1_2 l1_3) else (none))) = some (r1, r2) := by first | (rw [hy284]; with_reducible exact H) | (have H2_ := (Option.bind_some _ _).symm.trans H; rw [hy284]; with_reducible exact H2_) | (have H2_ := (Option.bind_some _ _).symm.trans H; with_reducible exact H2_) | with_reducible exact H | (rw [hy284]; exact H) | exact H
             have Ny284 := Aside0.mk hy284
             clear hy284
             by_cases c32 : (wrap64 ((y284.length : Int) + (a1_2.size : Int))) > 1048576
             ·rw [if_pos c32] at H
              have c32b0 : decide (1048576 < (wrap64 ((y284.length : Int) + (a1_2.size : Int)))) = true := decide_eq_true c32
              clear c32
              simp only [Option.some.injEq, Prod.mk.injEq] at H
              obtain ⟨rfl, rfl⟩ := H
              obtain ⟨hcz33_0, hcz33_1, hcz33_2, hcz33_3, hfz33_0, hfz33_1, hfz33_2, hfz33_3⟩ := cf4 BK271.out
              go_wp2_with (first | ((with_reducible refine gate_callee (f := 61) rfl ?_); refine goesL_ (some 48) rfl rfl Tryd.func61 (by kernel_rfl) rfl #[.int .u64 (IntKind.u64.wrap ((a1_2.size : Int))), .int .i64 4] rfl pM ?_; (with_reducible refine (minstrelref07_bytes.calls kj15 (IntKind.u64.wrap ((a1_2.size : Int))) 4 t281 _ A30.out).mono ?_); rintro e w34 ⟨v282, rfl, ho0, hb⟩; refine ⟨_, rfl, ?_⟩; have n0_ := Aside0.mk (Kd.R_elder' (pR HO_0.out) (Kd.R_base ho0) hb); have n1_ := Aside0.mk (Kd.R_lower (Kd.R_new' (Kd.R_newM (M := fun k_ => (P0_ k_ ∨ w.heap.size ≤ k_)) ho0 (by first | exact HK.out.1 | exact (show Kept w _ (fun k_ => P0_ k_) from by repeat (first | (with_reducible first | exact HK.out | apply Kept.alloc | apply Kept.drewN | apply Kept.drew | refine Kept.setCell ?_ (.inr GW271.out) _) | exact HK.out)).1) (fun k_ h_ => .inr h_)) (Kd.R_lt (pR HO_0.out))) (below_size pB)); have n2_ := Aside0.mk (pkb BK271.out hb); have n3_ := Aside0.mk (Kept.below (S := (fun k_ => P0_ k_)) (by repeat (first | (with_reducible first | exact HK.out | apply Kept.alloc | apply Kept.drewN | apply Kept.drew | refine Kept.setCell ?_ (.inr GW271.out) _) | exact HK.out)) hb); have n4_ := Aside0.mk (below_step pB hb); clear HO_0; clear BK271; clear HK; clear HB; have HO_0 := n0_; have HO283 := n1_; have BK271 := n2_; have HK := n3_; have HB := n4_; clear n0_ n1_ n2_ n3_ n4_; (try clear hb); (try clear hb2); (try clear hk); (try clear hi); (try clear ho0); obtain ⟨Ao36, co36, eo36⟩ := Kd.R_slice HO283.out; subst eo36) | ((with_reducible refine gate_builtin (b := .append) (xs := #[.tmp 43, .tmp 48]) rfl ?_); (try (refine gate_guard (by rfl) ?_; dsimp only)); at_builtin; refine Kd.R_append_rows (Kd.int .u8) (w0 := w0) w0.heap.size rfl (.tmp 43) (.tmp 48) 31 5 (.int .u8 0) 1 rfl Tryd.underlying31 info5 rfl (by decide) (by omega) u0 x0_15 t281 _ _ _ (fun k_ => (P0_ k_ ∨ w.heap.size ≤ k_) ∧ some k_ ≠ (.slice Ao36 t281.length co36 : Value).ownBlock) (fun _ => False) rfl rfl ?aO ?aR (fun _ _ h => h) (fun _ h => h.elim) ?aF ?aB ?aS ?aL ?_; (case aR => repeat (first | exact (Kd.R_reads' HO283.out).2.2 | (with_reducible refine Kd.C_alloc ?_ _) | (with_reducible refine Kd.C_drewN ?_ _) | (with_reducible refine Kd.C_drew ?_))); (case aB => exact pB); (case aF => exact (fun k_ hk => ⟨(.inr (Nat.le_trans (by first | exact HK.out.1 | exact (show Kept w _ (fun k_ => P0_ k_) from by repeat (first | (with_reducible first | exact HK.out | apply Kept.alloc | apply Kept.drewN | apply Kept.drew | refine Kept.setCell ?_ (.inr GW271.out) _) | exact HK.out)).1) hk)), Kd.fresh' (Kd.R_lt (pR HO283.out)) k_ hk⟩)); (case aO => exact (pR HO_0.out)); (case aS => exact (below_size pB)); (case aL => have := LMc31.out; omega); intro v285 w35 ho hb hg hat; rw [← Ny284.out] at ho; have n0_ := Aside0.mk (blk_grown (g := gb271) (o := .cells #[.int .i64 a1_0, .int .u64 a1_1, .string a1_2, .slice A1_3 l1_3.length c1_3] 26 (0, 0)) (pK BK271.out) hg (pX HO_0.out BK271.out)); have n1_ := Aside0.mk (Kd.R_after (ok := (fun k_ => (P0_ k_ ∨ w.heap.size ≤ k_))) (by (with_reducible repeat (first | apply Kd.R_alloc | apply Kd.R_drewN | apply Kd.R_drew)); exact Kd.R_mono HO283.out (fun _ hk => ⟨hk.1.1, hk.2⟩)) hg hat); have n2_ := Aside0.mk (hb); have n3_ := Aside0.mk (Kept.of_grown (S := (fun k_ => P0_ k_)) hg (by repeat (first | (with_reducible first | exact HK.out | apply Kept.alloc | apply Kept.drewN | apply Kept.drew | refine Kept.setCell ?_ (.inr GW271.out) _) | exact HK.out)) (fun k_ e_ => (HO_0.out.1 k_ e_).1)); have n4_ := Aside0.mk (ho); clear BK271; clear HO283; clear HB; clear HK; clear HO_0; have BK271 := n0_; have HO283 := n1_; have HB := n2_; have HK := n3_; have HO286 := n4_; clear n0_ n1_ n2_ n3_ n4_; clear ho hb hg hat; obtain ⟨Ao37, co37, eo37⟩ := Kd.R_slice HO286.out; subst eo37; obtain ⟨hcz38_0, hcz38_1, hcz38_2, hcz38_3, hfz38_0, hfz38_1, hfz38_2, hfz38_3⟩ := cf4 BK271.out))
              go_ret2
              exact ⟨_, pE, pZ, pB, by repeat (first | (with_reducible first | exact HK.out | apply Kept.alloc | apply Kept.drewN | apply Kept.drew | refine Kept.setCell ?_ (.inr GW271.out) _) | exact HK.out)⟩
             ·rw [if_neg c32] at H
              have c32b0 : decide (1048576 < (wrap64 ((y284.length : Int) + (a1_2.size : Int)))) = false := decide_eq_false c32
              clear c32
              by_cases c39 : y284.length + a1_2.size < 140737488355328
              ·rw [if_pos c39] at H
               have LMc39 := Aside0.mk c39
               clear c39
               obtain ⟨y287, hy287⟩ : ∃ y_ : List Int, y_ = (y284 ++ bytesOf a1_2) := ⟨_, rfl⟩
               replace H : (minstrelref07_put.j3 kj15 y287 a2 a1_0 a1_1 a1_2 l1_3) = some (r1, r2) := by first | (rw [hy287]; with_reducible exact H) | (have H2_ := (Option.bind_some _ _).symm.trans H; rw [hy287]; with_reducible exact H2_) | (have H2_ := (Option.bind_some _ _).symm.trans H; with_reducible exact H2_) | with_reducible exact H | (rw [hy287]; exact H) | exact H
               have Ny287 := Aside0.mk hy287
               clear hy287
               have H' := Aside0.mk H
               clear H
               obtain ⟨hcz40_0, hcz40_1, hcz40_2, hcz40_3, hfz40_0, hfz40_1, hfz40_2, hfz40_3⟩ := cf4 BK271.out
               go_wp2_with (first | ((with_reducible refine gate_callee (f := 61) rfl ?_); refine goesL_ (some 48) rfl rfl Tryd.func61 (by kernel_rfl) rfl #[.int .u64 (IntKind.u64.wrap ((a1_2.size : Int))), .int .i64 4] rfl pM ?_; (with_reducible refine (minstrelref07_bytes.calls kj15 (IntKind.u64.wrap ((a1_2.size : Int))) 4 t281 _ A30.out).mono ?_); rintro e w41 ⟨v282, rfl, ho0, hb⟩; refine ⟨_, rfl, ?_⟩; have n0_ := Aside0.mk (Kd.R_elder' (pR HO_0.out) (Kd.R_base ho0) hb); have n1_ := Aside0.mk (Kd.R_lower (Kd.R_new' (Kd.R_newM (M := fun k_ => (P0_ k_ ∨ w.heap.size ≤ k_)) ho0 (by first | exact HK.out.1 | exact (show Kept w _ (fun k_ => P0_ k_) from by repeat (first | (with_reducible first | exact HK.out | apply Kept.alloc | apply Kept.drewN | apply Kept.drew | refine Kept.setCell ?_ (.inr GW271.out) _) | exact HK.out)).1) (fun k_ h_ => .inr h_)) (Kd.R_lt (pR HO_0.out))) (below_size pB)); have n2_ := Aside0.mk (pkb BK271.out hb); have n3_ := Aside0.mk (Kept.below (S := (fun k_ => P0_ k_)) (by repeat (first | (with_reducible first | exact HK.out | apply Kept.alloc | apply Kept.drewN | apply Kept.drew | refine Kept.setCell ?_ (.inr GW271.out) _) | exact HK.out)) hb); have n4_ := Aside0.mk (below_step pB hb); clear HO_0; clear BK271; clear HK; clear HB; have HO_0 := n0_; have HO283 := n1_; have BK271 := n2_; have HK := n3_; have HB := n4_; clear n0_ n1_ n2_ n3_ n4_; (try clear hb); (try clear hb2); (try clear hk); (try clear hi); (try clear ho0); obtain ⟨Ao43, co43, eo43⟩ := Kd.R_slice HO283.out; subst eo43) | ((with_reducible refine gate_builtin (b := .append) (xs := #[.tmp 43, .tmp 48]) rfl ?_); (try (refine gate_guard (by rfl) ?_; dsimp only)); at_builtin; refine Kd.R_append_rows (Kd.int .u8) (w0 := w0) w0.heap.size rfl (.tmp 43) (.tmp 48) 31 5 (.int .u8 0) 1 rfl Tryd.underlying31 info5 rfl (by decide) (by omega) u0 x0_15 t281 _ _ _ (fun k_ => (P0_ k_ ∨ w.heap.size ≤ k_) ∧ some k_ ≠ (.slice Ao43 t281.length co43 : Value).ownBlock) (fun _ => False) rfl rfl ?aO ?aR (fun _ _ h => h) (fun _ h => h.elim) ?aF ?aB ?aS ?aL ?_; (case aR => repeat (first | exact (Kd.R_reads' HO283.out).2.2 | (with_reducible refine Kd.C_alloc ?_ _) | (with_reducible refine Kd.C_drewN ?_ _) | (with_reducible refine Kd.C_drew ?_))); (case aB => exact pB); (case aF => exact (fun k_ hk => ⟨(.inr (Nat.le_trans (by first | exact HK.out.1 | exact (show Kept w _ (fun k_ => P0_ k_) from by repeat (first | (with_reducible first | exact HK.out | apply Kept.alloc | apply Kept.drewN | apply Kept.drew | refine Kept.setCell ?_ (.inr GW271.out) _) | exact HK.out)).1) hk)), Kd.fresh' (Kd.R_lt (pR HO283.out)) k_ hk⟩)); (case aO => exact (pR HO_0.out)); (case aS => exact (below_size pB)); (case aL => have := LMc31.out; omega); intro v285 w42 ho hb hg hat; rw [← Ny284.out] at ho; have n0_ := Aside0.mk (blk_grown (g := gb271) (o := .cells #[.int .i64 a1_0, .int .u64 a1_1, .string a1_2, .slice A1_3 l1_3.length c1_3] 26 (0, 0)) (pK BK271.out) hg (pX HO_0.out BK271.out)); have n1_ := Aside0.mk (Kd.R_after (ok := (fun k_ => (P0_ k_ ∨ w.heap.size ≤ k_))) (by (with_reducible repeat (first | apply Kd.R_alloc | apply Kd.R_drewN | apply Kd.R_drew)); exact Kd.R_mono HO283.out (fun _ hk => ⟨hk.1.1, hk.2⟩)) hg hat); have n2_ := Aside0.mk (hb); have n3_ := Aside0.mk (Kept.of_grown (S := (fun k_ => P0_ k_)) hg (by repeat (first | (with_reducible first | exact HK.out | apply Kept.alloc | apply Kept.drewN | apply Kept.drew | refine Kept.setCell ?_ (.inr GW271.out) _) | exact HK.out)) (fun k_ e_ => (HO_0.out.1 k_ e_).1)); have n4_ := Aside0.mk (ho); clear BK271; clear HO283; clear HB; clear HK; clear HO_0; have BK271 := n0_; have HO283 := n1_; have HB := n2_; have HK := n3_; have HO286 := n4_; clear n0_ n1_ n2_ n3_ n4_; clear ho hb hg hat; obtain ⟨Ao44, co44, eo44⟩ := Kd.R_slice HO286.out; subst eo44; obtain ⟨hcz45_0, hcz45_1, hcz45_2, hcz45_3, hfz45_0, hfz45_1, hfz45_2, hfz45_3⟩ := cf4 BK271.out) | (at_builtin; refine R_append_str (w0 := w0) w0.heap.size rfl (.tmp 57) _ 31 9 5 rfl Tryd.underlying31 Tryd.underlying9 info5 (.slice Ao44 y284.length co44) y284 a1_2 (fun k_ => (P0_ k_ ∨ w.heap.size ≤ k_) ∧ some k_ ≠ (.slice Ao43 t281.length co43 : Value).ownBlock) rfl rfl ?aF ?aO ?aB ?aS ?aL ?_; (case aB => exact pB); (case aF => exact (fun k_ hk => ⟨(.inr (Nat.le_trans (by first | exact HK.out.1 | exact (show Kept w _ (fun k_ => P0_ k_) from by repeat (first | (with_reducible first | exact HK.out | apply Kept.alloc | apply Kept.drewN | apply Kept.drew | refine Kept.setCell ?_ (.inr GW271.out) _) | exact HK.out)).1) hk)), Kd.fresh' (Kd.R_lt (pR HO283.out)) k_ hk⟩)); (case aO => exact (pR HO286.out)); (case aS => exact (below_size pB)); (case aL => have := LMc39.out; omega); intro v288 w46 ho hb hg hat; rw [← Ny287.out] at ho; change Kd.R (Kd.int .u8) 5 w46 w0.heap.size (fun k_ => (P0_ k_ ∨ w.heap.size ≤ k_) ∧ some k_ ≠ (.slice Ao43 t281.length co43 : Value).ownBlock) v288 y287 at ho; have n0_ := Aside0.mk (blk_grown (g := gb271) (o := .cells #[.int .i64 a1_0, .int .u64 a1_1, .string a1_2, .slice A1_3 l1_3.length c1_3] 26 (0, 0)) (pK BK271.out) hg (pX HO286.out BK271.out)); have n1_ := Aside0.mk (Kd.R_after (ok := (fun k_ => (P0_ k_ ∨ w.heap.size ≤ k_))) (pR HO283.out) hg hat); have n2_ := Aside0.mk (hb); have n3_ := Aside0.mk (Kept.of_grown (S := (fun k_ => P0_ k_)) hg (by repeat (first | (with_reducible first | exact HK.out | apply Kept.alloc | apply Kept.drewN | apply Kept.drew | refine Kept.setCell ?_ (.inr GW271.out) _) | exact HK.out)) (fun k_ e_ => (HO286.out.1 k_ e_).1)); have n4_ := Aside0.mk (ho); clear BK271; clear HO283; clear HB; clear HK; clear HO286; have BK271 := n0_; have HO283 := n1_; have HB := n2_; have HK := n3_; have HO289 := n4_; clear n0_ n1_ n2_ n3_ n4_; clear ho hb hg hat))
               go_meet
               case rel => exact ⟨_, (y287), H', ⟨by have := HJ3.out; have := HJ9.out; have := HJ15.out; first | omega | exact Nat.le_refl _⟩, ⟨by (with_reducible repeat (first | apply Kd.R_alloc | apply Kd.R_drewN | apply Kd.R_drew)); exact Kd.R_mono HO289.out (fun _ hk => hk.1)⟩, ⟨by (with_reducible repeat (first | refine blk_drewN ?_ _ | refine blk_drew ?_ | refine blk_alloc ?_ _)); exact BK271.out⟩, ⟨by repeat (first | (with_reducible first | exact HK.out | apply Kept.alloc | apply Kept.drewN | apply Kept.drew | refine Kept.setCell ?_ (.inr GW271.out) _) | exact HK.out)⟩, ⟨pB⟩⟩
              ·rw [if_neg c39] at H
               exact absurd H (by simp)
            ·rw [if_neg c31] at H
             exact absurd H (by simp)
           ·rw [if_neg c29] at H
            have c29b0 : (a1_0 == 1) = false := beq_eq_false_iff_ne.mpr c29
            have c29b1 : (a1_0 != 1) = true := bne_iff_ne.mpr c29
            (first | rw [c29b0] | (simp only [i64_w, i32_w]; rw [c29b0]) | rw [c29b1] | (simp only [i64_w, i32_w]; rw [c29b1]) | skip)
            have H' := Aside0.mk H
            clear H
            go_wp2
            go_meet
            case rel => exact ⟨_, (x0_15), H', ⟨by have := HJ3.out; have := HJ9.out; have := HJ15.out; first | omega | exact Nat.le_refl _⟩, ⟨by (with_reducible repeat (first | apply Kd.R_alloc | apply Kd.R_drewN | apply Kd.R_drew)); exact HO_0.out⟩, ⟨by (with_reducible repeat (first | refine blk_drewN ?_ _ | refine blk_drew ?_ | refine blk_alloc ?_ _)); exact BK271.out⟩, ⟨by repeat (first | (with_reducible first | exact HK.out | apply Kept.alloc | apply Kept.drewN | apply Kept.drew | refine Kept.setCell ?_ (.inr GW271.out) _) | exact HK.out)⟩, ⟨pB⟩⟩
          case rest =>
           clear HC27
           try clear c1
           try clear c2
           try clear p2
           try clear c3
           try clear c5
           try clear c6
           try clear c6b0
           try clear c6b1
           try clear p6
           try clear c9
           try clear c11
           try clear c11b0
           try clear c11b1
           try clear c14
           try clear c15
           try clear c20
           try clear c20b0
           try clear c20b1
           try clear c22
           try clear c29
           try clear c29b0
           try clear c29b1
           try clear c31
           try clear c32
           try clear c32b0
           try clear c39
           try clear hcz12_0 hcz12_1 hcz12_2 hcz12_3 hcz13_0 hcz13_1 hcz13_2 hcz13_3 hcz17_0 hcz17_1 hcz17_2 hcz17_3 hcz19_0 hcz19_1 hcz19_2 hcz19_3 hcz23_0 hcz23_1 hcz23_2 hcz23_3 hcz28_0 hcz28_1 hcz28_2 hcz28_3 hcz33_0 hcz33_1 hcz33_2 hcz33_3 hcz38_0 hcz38_1 hcz38_2 hcz38_3 hcz40_0 hcz40_1 hcz40_2 hcz40_3 hcz45_0 hcz45_1 hcz45_2 hcz45_3 hcz7_0 hcz7_1 hcz7_2 hcz7_3 hcz8_0 hcz8_1 hcz8_2 hcz8_3 hfz12_0 hfz12_1 hfz12_2 hfz12_3 hfz13_0 hfz13_1 hfz13_2 hfz13_3 hfz17_0 hfz17_1 hfz17_2 hfz17_3 hfz19_0 hfz19_1 hfz19_2 hfz19_3 hfz23_0 hfz23_1 hfz23_2 hfz23_3 hfz28_0 hfz28_1 hfz28_2 hfz28_3 hfz33_0 hfz33_1 hfz33_2 hfz33_3 hfz38_0 hfz38_1 hfz38_2 hfz38_3 hfz40_0 hfz40_1 hfz40_2 hfz40_3 hfz45_0 hfz45_1 hfz45_2 hfz45_3 hfz7_0 hfz7_1 hfz7_2 hfz7_3 hfz8_0 hfz8_1 hfz8_2 hfz8_3
           try clear p2
           obtain ⟨kq, x0_26, HA, HJ26, HO_0, BK271, HK, HB⟩ := hcut
           cases kq with
           | zero => exact absurd HA.out (by simp [minstrelref07_put.j3])
           | succ kj26 =>
            have H := HA.out
            clear HA
            simp only [minstrelref07_put.j3] at H
            have HC47 := Aside0.mk H
            clear H
            obtain ⟨hcz48_0, hcz48_1, hcz48_2, hcz48_3, hfz48_0, hfz48_1, hfz48_2, hfz48_3⟩ := cf4 BK271.out
            go_upto_if 63 with (fail)
            go_cut [0] (fun v0 wc => ∃ (kq : Nat) (x0_46 : List Int), Aside0 (minstrelref07_put.j4 kq x0_46 a2 a1_0 a1_1 a1_2 l1_3 = some (r1, r2)) ∧ Aside0 (kq ≤ kj26) ∧ Aside0 (Kd.R (Kd.int .u8) 5 wc w0.heap.size (fun k_ => (P0_ k_ ∨ w.heap.size ≤ k_)) v0 x0_46) ∧ Aside0 (wc.heap[gb271]? = some (.cells #[.int .i64 a1_0, .int .u64 a1_1, .string a1_2, (.slice A1_3 l1_3.length c1_3)] 26 (0, 0))) ∧ Aside0 (Kept w wc (fun k_ => P0_ k_)) ∧ Aside0 (Below w0.heap.size w0 wc))
            case first =>
             have H := HC47.out
             clear HC47
             by_cases c49 : a1_0 = 2
             ·rw [if_pos c49] at H
              have c49b0 : (a1_0 == 2) = true := beq_iff_eq.mpr c49
              have c49b1 : (a1_0 != 2) = false := bne_eq_false_iff_eq.mpr c49
              clear c49
              (first | rw [c49b0] | (simp only [i64_w, i32_w]; rw [c49b0]) | rw [c49b1] | (simp only [i64_w, i32_w]; rw [c49b1]) | skip)
              replace H := Option.bind_eq_some_iff.mp H
              obtain ⟨t290, A500, H⟩ := H
              replace H : (if x0_26.length + t290.length < 140737488355328 then (if (l1_3.length : Int) > 1048576 then (some (([] : List Int), 2)) else (minstrelref07_put.j4 kj26 (x0_26 ++ t290) a2 a1_0 a1_1 a1_2 l1_3)) else (none)) = some (r1, r2) := H
              have A50 := Aside0.mk A500
              clear A500
              by_cases c51 : x0_26.length + t290.length < 140737488355328
              ·rw [if_pos c51] at H
               have LMc51 := Aside0.mk c51
               clear c51
               obtain ⟨y293, hy293⟩ : ∃ y_ : List Int, y_ = (x0_26 ++ t290) := ⟨_, rfl⟩
               replace H : (if (l1_3.length : Int) > 1048576 then (some (([] : List Int), 2)) else (minstrelref07_put.j4 kj26 y293 a2 a1_0 a1_1 a1_2 l1_3)) = some (r1, r2) := by first | (rw [hy293]; with_reducible exact H) | (have H2_ := (Option.bind_some _ _).symm.trans H; rw [hy293]; with_reducible exact H2_) | (have H2_ := (Option.bind_some _ _).symm.trans H; with_reducible exact H2_) | with_reducible exact H | (rw [hy293]; exact H) | exact H
               have Ny293 := Aside0.mk hy293
               clear hy293
               by_cases c52 : (l1_3.length : Int) > 1048576
               ·rw [if_pos c52] at H
                have c52b0 : decide (1048576 < (l1_3.length : Int)) = true := decide_eq_true c52
                have c52b1 : decide (1048576 < l1_3.length) = true := decide_eq_true (by omega)
                clear c52
                simp only [Option.some.injEq, Prod.mk.injEq] at H
                obtain ⟨rfl, rfl⟩ := H
                obtain ⟨hcz53_0, hcz53_1, hcz53_2, hcz53_3, hfz53_0, hfz53_1, hfz53_2, hfz53_3⟩ := cf4 BK271.out
                go_wp2_with (first | ((with_reducible refine gate_callee (f := 61) rfl ?_); refine goesL_ (some 69) rfl rfl Tryd.func61 (by kernel_rfl) rfl #[.int .u64 (IntKind.u64.wrap ((l1_3.length : Int))), .int .i64 4] rfl pM ?_; (with_reducible refine (minstrelref07_bytes.calls kj26 (IntKind.u64.wrap ((l1_3.length : Int))) 4 t290 _ A50.out).mono ?_); rintro e w54 ⟨v291, rfl, ho0, hb⟩; refine ⟨_, rfl, ?_⟩; have n0_ := Aside0.mk (Kd.R_elder' (pR HO_0.out) (Kd.R_base ho0) hb); have n1_ := Aside0.mk (Kd.R_lower (Kd.R_new' (Kd.R_newM (M := fun k_ => (P0_ k_ ∨ w.heap.size ≤ k_)) ho0 (by first | exact HK.out.1 | exact (show Kept w _ (fun k_ => P0_ k_) from by repeat (first | (with_reducible first | exact HK.out | apply Kept.alloc | apply Kept.drewN | apply Kept.drew | refine Kept.setCell ?_ (.inr GW271.out) _) | exact HK.out)).1) (fun k_ h_ => .inr h_)) (Kd.R_lt (pR HO_0.out))) (below_size pB)); have n2_ := Aside0.mk (pkb BK271.out hb); have n3_ := Aside0.mk (Kept.below (S := (fun k_ => P0_ k_)) (by repeat (first | (with_reducible first | exact HK.out | apply Kept.alloc | apply Kept.drewN | apply Kept.drew | refine Kept.setCell ?_ (.inr GW271.out) _) | exact HK.out)) hb); have n4_ := Aside0.mk (below_step pB hb); clear HO_0; clear BK271; clear HK; clear HB; have HO_0 := n0_; have HO292 := n1_; have BK271 := n2_; have HK := n3_; have HB := n4_; clear n0_ n1_ n2_ n3_ n4_; (try clear hb); (try clear hb2); (try clear hk); (try clear hi); (try clear ho0); obtain ⟨Ao56, co56, eo56⟩ := Kd.R_slice HO292.out; subst eo56) | ((with_reducible refine gate_builtin (b := .append) (xs := #[.tmp 64, .tmp 69]) rfl ?_); (try (refine gate_guard (by rfl) ?_; dsimp only)); at_builtin; refine Kd.R_append_rows (Kd.int .u8) (w0 := w0) w0.heap.size rfl (.tmp 64) (.tmp 69) 31 5 (.int .u8 0) 1 rfl Tryd.underlying31 info5 rfl (by decide) (by omega) u0 x0_26 t290 _ _ _ (fun k_ => (P0_ k_ ∨ w.heap.size ≤ k_) ∧ some k_ ≠ (.slice Ao56 t290.length co56 : Value).ownBlock) (fun _ => False) rfl rfl ?aO ?aR (fun _ _ h => h) (fun _ h => h.elim) ?aF ?aB ?aS ?aL ?_; (case aR => repeat (first | exact (Kd.R_reads' HO292.out).2.2 | (with_reducible refine Kd.C_alloc ?_ _) | (with_reducible refine Kd.C_drewN ?_ _) | (with_reducible refine Kd.C_drew ?_))); (case aB => exact pB); (case aF => exact (fun k_ hk => ⟨(.inr (Nat.le_trans (by first | exact HK.out.1 | exact (show Kept w _ (fun k_ => P0_ k_) from by repeat (first | (with_reducible first | exact HK.out | apply Kept.alloc | apply Kept.drewN | apply Kept.drew | refine Kept.setCell ?_ (.inr GW271.out) _) | exact HK.out)).1) hk)), Kd.fresh' (Kd.R_lt (pR HO292.out)) k_ hk⟩)); (case aO => exact (pR HO_0.out)); (case aS => exact (below_size pB)); (case aL => have := LMc51.out; omega); intro v294 w55 ho hb hg hat; rw [← Ny293.out] at ho; have n0_ := Aside0.mk (blk_grown (g := gb271) (o := .cells #[.int .i64 a1_0, .int .u64 a1_1, .string a1_2, .slice A1_3 l1_3.length c1_3] 26 (0, 0)) (pK BK271.out) hg (pX HO_0.out BK271.out)); have n1_ := Aside0.mk (Kd.R_after (ok := (fun k_ => (P0_ k_ ∨ w.heap.size ≤ k_))) (by (with_reducible repeat (first | apply Kd.R_alloc | apply Kd.R_drewN | apply Kd.R_drew)); exact Kd.R_mono HO292.out (fun _ hk => ⟨hk.1.1, hk.2⟩)) hg hat); have n2_ := Aside0.mk (hb); have n3_ := Aside0.mk (Kept.of_grown (S := (fun k_ => P0_ k_)) hg (by repeat (first | (with_reducible first | exact HK.out | apply Kept.alloc | apply Kept.drewN | apply Kept.drew | refine Kept.setCell ?_ (.inr GW271.out) _) | exact HK.out)) (fun k_ e_ => (HO_0.out.1 k_ e_).1)); have n4_ := Aside0.mk (ho); clear BK271; clear HO292; clear HB; clear HK; clear HO_0; have BK271 := n0_; have HO292 := n1_; have HB := n2_; have HK := n3_; have HO295 := n4_; clear n0_ n1_ n2_ n3_ n4_; clear ho hb hg hat; obtain ⟨hcz57_0, hcz57_1, hcz57_2, hcz57_3, hfz57_0, hfz57_1, hfz57_2, hfz57_3⟩ := cf4 BK271.out))
                go_ret2
                exact ⟨_, pE, pZ, pB, by repeat (first | (with_reducible first | exact HK.out | apply Kept.alloc | apply Kept.drewN | apply Kept.drew | refine Kept.setCell ?_ (.inr GW271.out) _) | exact HK.out)⟩
               ·rw [if_neg c52] at H
                have c52b0 : decide (1048576 < (l1_3.length : Int)) = false := decide_eq_false c52
                have c52b1 : decide (1048576 < l1_3.length) = false := decide_eq_false (by omega)
                clear c52
                have H' := Aside0.mk H
                clear H
                obtain ⟨hcz58_0, hcz58_1, hcz58_2, hcz58_3, hfz58_0, hfz58_1, hfz58_2, hfz58_3⟩ := cf4 BK271.out
                go_wp2_with (first | ((with_reducible refine gate_callee (f := 61) rfl ?_); refine goesL_ (some 69) rfl rfl Tryd.func61 (by kernel_rfl) rfl #[.int .u64 (IntKind.u64.wrap ((l1_3.length : Int))), .int .i64 4] rfl pM ?_; (with_reducible refine (minstrelref07_bytes.calls kj26 (IntKind.u64.wrap ((l1_3.length : Int))) 4 t290 _ A50.out).mono ?_); rintro e w59 ⟨v291, rfl, ho0, hb⟩; refine ⟨_, rfl, ?_⟩; have n0_ := Aside0.mk (Kd.R_elder' (pR HO_0.out) (Kd.R_base ho0) hb); have n1_ := Aside0.mk (Kd.R_lower (Kd.R_new' (Kd.R_newM (M := fun k_ => (P0_ k_ ∨ w.heap.size ≤ k_)) ho0 (by first | exact HK.out.1 | exact (show Kept w _ (fun k_ => P0_ k_) from by repeat (first | (with_reducible first | exact HK.out | apply Kept.alloc | apply Kept.drewN | apply Kept.drew | refine Kept.setCell ?_ (.inr GW271.out) _) | exact HK.out)).1) (fun k_ h_ => .inr h_)) (Kd.R_lt (pR HO_0.out))) (below_size pB)); have n2_ := Aside0.mk (pkb BK271.out hb); have n3_ := Aside0.mk (Kept.below (S := (fun k_ => P0_ k_)) (by repeat (first | (with_reducible first | exact HK.out | apply Kept.alloc | apply Kept.drewN | apply Kept.drew | refine Kept.setCell ?_ (.inr GW271.out) _) | exact HK.out)) hb); have n4_ := Aside0.mk (below_step pB hb); clear HO_0; clear BK271; clear HK; clear HB; have HO_0 := n0_; have HO292 := n1_; have BK271 := n2_; have HK := n3_; have HB := n4_; clear n0_ n1_ n2_ n3_ n4_; (try clear hb); (try clear hb2); (try clear hk); (try clear hi); (try clear ho0); obtain ⟨Ao61, co61, eo61⟩ := Kd.R_slice HO292.out; subst eo61) | ((with_reducible refine gate_builtin (b := .append) (xs := #[.tmp 64, .tmp 69]) rfl ?_); (try (refine gate_guard (by rfl) ?_; dsimp only)); at_builtin; refine Kd.R_append_rows (Kd.int .u8) (w0 := w0) w0.heap.size rfl (.tmp 64) (.tmp 69) 31 5 (.int .u8 0) 1 rfl Tryd.underlying31 info5 rfl (by decide) (by omega) u0 x0_26 t290 _ _ _ (fun k_ => (P0_ k_ ∨ w.heap.size ≤ k_) ∧ some k_ ≠ (.slice Ao61 t290.length co61 : Value).ownBlock) (fun _ => False) rfl rfl ?aO ?aR (fun _ _ h => h) (fun _ h => h.elim) ?aF ?aB ?aS ?aL ?_; (case aR => repeat (first | exact (Kd.R_reads' HO292.out).2.2 | (with_reducible refine Kd.C_alloc ?_ _) | (with_reducible refine Kd.C_drewN ?_ _) | (with_reducible refine Kd.C_drew ?_))); (case aB => exact pB); (case aF => exact (fun k_ hk => ⟨(.inr (Nat.le_trans (by first | exact HK.out.1 | exact (show Kept w _ (fun k_ => P0_ k_) from by repeat (first | (with_reducible first | exact HK.out | apply Kept.alloc | apply Kept.drewN | apply Kept.drew | refine Kept.setCell ?_ (.inr GW271.out) _) | exact HK.out)).1) hk)), Kd.fresh' (Kd.R_lt (pR HO292.out)) k_ hk⟩)); (case aO => exact (pR HO_0.out)); (case aS => exact (below_size pB)); (case aL => have := LMc51.out; omega); intro v294 w60 ho hb hg hat; rw [← Ny293.out] at ho; have n0_ := Aside0.mk (blk_grown (g := gb271) (o := .cells #[.int .i64 a1_0, .int .u64 a1_1, .string a1_2, .slice A1_3 l1_3.length c1_3] 26 (0, 0)) (pK BK271.out) hg (pX HO_0.out BK271.out)); have n1_ := Aside0.mk (Kd.R_after (ok := (fun k_ => (P0_ k_ ∨ w.heap.size ≤ k_))) (by (with_reducible repeat (first | apply Kd.R_alloc | apply Kd.R_drewN | apply Kd.R_drew)); exact Kd.R_mono HO292.out (fun _ hk => ⟨hk.1.1, hk.2⟩)) hg hat); have n2_ := Aside0.mk (hb); have n3_ := Aside0.mk (Kept.of_grown (S := (fun k_ => P0_ k_)) hg (by repeat (first | (with_reducible first | exact HK.out | apply Kept.alloc | apply Kept.drewN | apply Kept.drew | refine Kept.setCell ?_ (.inr GW271.out) _) | exact HK.out)) (fun k_ e_ => (HO_0.out.1 k_ e_).1)); have n4_ := Aside0.mk (ho); clear BK271; clear HO292; clear HB; clear HK; clear HO_0; have BK271 := n0_; have HO292 := n1_; have HB := n2_; have HK := n3_; have HO295 := n4_; clear n0_ n1_ n2_ n3_ n4_; clear ho hb hg hat; obtain ⟨hcz62_0, hcz62_1, hcz62_2, hcz62_3, hfz62_0, hfz62_1, hfz62_2, hfz62_3⟩ := cf4 BK271.out))
                go_meet
                case rel => exact ⟨_, (y293), H', ⟨by have := HJ3.out; have := HJ9.out; have := HJ15.out; have := HJ26.out; first | omega | exact Nat.le_refl _⟩, ⟨by (with_reducible repeat (first | apply Kd.R_alloc | apply Kd.R_drewN | apply Kd.R_drew)); exact Kd.R_mono HO295.out (fun _ hk => hk.1)⟩, ⟨by (with_reducible repeat (first | refine blk_drewN ?_ _ | refine blk_drew ?_ | refine blk_alloc ?_ _)); exact BK271.out⟩, ⟨by repeat (first | (with_reducible first | exact HK.out | apply Kept.alloc | apply Kept.drewN | apply Kept.drew | refine Kept.setCell ?_ (.inr GW271.out) _) | exact HK.out)⟩, ⟨pB⟩⟩
              ·rw [if_neg c51] at H
               exact absurd H (by simp)
             ·rw [if_neg c49] at H
              have c49b0 : (a1_0 == 2) = false := beq_eq_false_iff_ne.mpr c49
              have c49b1 : (a1_0 != 2) = true := bne_iff_ne.mpr c49
              (first | rw [c49b0] | (simp only [i64_w, i32_w]; rw [c49b0]) | rw [c49b1] | (simp only [i64_w, i32_w]; rw [c49b1]) | skip)
              have H' := Aside0.mk H
              clear H
              go_wp2
              go_meet
              case rel => exact ⟨_, (x0_26), H', ⟨by have := HJ3.out; have := HJ9.out; have := HJ15.out; have := HJ26.out; first | omega | exact Nat.le_refl _⟩, ⟨by (with_reducible repeat (first | apply Kd.R_alloc | apply Kd.R_drewN | apply Kd.R_drew)); exact HO_0.out⟩, ⟨by (with_reducible repeat (first | refine blk_drewN ?_ _ | refine blk_drew ?_ | refine blk_alloc ?_ _)); exact BK271.out⟩, ⟨by repeat (first | (with_reducible first | exact HK.out | apply Kept.alloc | apply Kept.drewN | apply Kept.drew | refine Kept.setCell ?_ (.inr GW271.out) _) | exact HK.out)⟩, ⟨pB⟩⟩
            case rest =>
             clear HC47
             try clear c1
             try clear c2
             try clear p2
             try clear c3
             try clear c4
             try clear c5
             try clear c6
             try clear c6b0
             try clear c6b1
             try clear p6
             try clear c9
             try clear c11
             try clear c11b0
             try clear c11b1
             try clear c14
             try clear c15
             try clear c20
             try clear c20b0
             try clear c20b1
             try clear c22
             try clear c29
             try clear c29b0
             try clear c29b1
             try clear c31
             try clear c32
             try clear c32b0
             try clear c39
             try clear c49
             try clear c49b0
             try clear c49b1
             try clear c51
             try clear c52
             try clear c52b0
             try clear c52b1
             try clear c61
             try clear hcz12_0 hcz12_1 hcz12_2 hcz12_3 hcz13_0 hcz13_1 hcz13_2 hcz13_3 hcz17_0 hcz17_1 hcz17_2 hcz17_3 hcz19_0 hcz19_1 hcz19_2 hcz19_3 hcz23_0 hcz23_1 hcz23_2 hcz23_3 hcz28_0 hcz28_1 hcz28_2 hcz28_3 hcz33_0 hcz33_1 hcz33_2 hcz33_3 hcz38_0 hcz38_1 hcz38_2 hcz38_3 hcz40_0 hcz40_1 hcz40_2 hcz40_3 hcz45_0 hcz45_1 hcz45_2 hcz45_3 hcz48_0 hcz48_1 hcz48_2 hcz48_3 hcz53_0 hcz53_1 hcz53_2 hcz53_3 hcz57_0 hcz57_1 hcz57_2 hcz57_3 hcz58_0 hcz58_1 hcz58_2 hcz58_3 hcz62_0 hcz62_1 hcz62_2 hcz62_3 hcz7_0 hcz7_1 hcz7_2 hcz7_3 hcz8_0 hcz8_1 hcz8_2 hcz8_3 hfz12_0 hfz12_1 hfz12_2 hfz12_3 hfz13_0 hfz13_1 hfz13_2 hfz13_3 hfz17_0 hfz17_1 hfz17_2 hfz17_3 hfz19_0 hfz19_1 hfz19_2 hfz19_3 hfz23_0 hfz23_1 hfz23_2 hfz23_3 hfz28_0 hfz28_1 hfz28_2 hfz28_3 hfz33_0 hfz33_1 hfz33_2 hfz33_3 hfz38_0 hfz38_1 hfz38_2 hfz38_3 hfz40_0 hfz40_1 hfz40_2 hfz40_3 hfz45_0 hfz45_1 hfz45_2 hfz45_3 hfz48_0 hfz48_1 hfz48_2 hfz48_3 hfz53_0 hfz53_1 hfz53_2 hfz53_3 hfz57_0 hfz57_1 hfz57_2 hfz57_3 hfz58_0 hfz58_1 hfz58_2 hfz58_3 hfz62_0 hfz62_1 hfz62_2 hfz62_3 hfz7_0 hfz7_1 hfz7_2 hfz7_3 hfz8_0 hfz8_1 hfz8_2 hfz8_3
             try clear p2
             try clear p6
             obtain ⟨kq, x0_46, HA, HJ46, HO_0, BK271, HK, HB⟩ := hcut
             cases kq with
             | zero => exact absurd HA.out (by simp [minstrelref07_put.j4])
             | succ kj46 =>
              have H := HA.out
              clear HA
              simp only [minstrelref07_put.j4] at H
              by_cases c63 : (x0_46.length : Int) > 1048576
              ·rw [if_pos c63] at H
               have c63b0 : decide (1048576 < (x0_46.length : Int)) = true := decide_eq_true c63
               have c63b1 : decide (1048576 < x0_46.length) = true := decide_eq_true (by omega)
               clear c63
               simp only [Option.some.injEq, Prod.mk.injEq] at H
               obtain ⟨rfl, rfl⟩ := H
               obtain ⟨Ao64, co64, eo64⟩ := Kd.R_slice HO_0.out
               subst eo64
               go_wp2
               go_ret2
               exact ⟨_, pE, pZ, pB, by repeat (first | (with_reducible first | exact HK.out | apply Kept.alloc | apply Kept.drewN | apply Kept.drew | refine Kept.setCell ?_ (.inr GW271.out) _) | exact HK.out)⟩
              ·rw [if_neg c63] at H
               have c63b0 : decide (1048576 < (x0_46.length : Int)) = false := decide_eq_false c63
               have c63b1 : decide (1048576 < x0_46.length) = false := decide_eq_false (by omega)
               clear c63
               have H' := Aside0.mk H
               clear H
               obtain ⟨Ao65, co65, eo65⟩ := Kd.R_slice HO_0.out
               subst eo65
               go_wp2
               go_loopg [0, 8] kj46 (fun kq v0 v8 w' => ∃ (x0_6 : List Int) (x8_6 : Int), v8 = .int .i64 x8_6 ∧ Aside0 (minstrelref07_put.l0 kq x0_6 a2 x8_6 a1_0 a1_1 a1_2 l1_3 = some (r1, r2)) ∧ Aside0 (kq ≤ kj46) ∧ Aside0 (Kd.R (Kd.int .u8) 5 w' w0.heap.size (fun k_ => (P0_ k_ ∨ w.heap.size ≤ k_)) v0 x0_6) ∧ Aside0 (w'.heap[gb271]? = some (.cells #[.int .i64 a1_0, .int .u64 a1_1, .string a1_2, (.slice A1_3 l1_3.length c1_3)] 26 (0, 0))) ∧ Aside0 (Kept w w' (fun k_ => P0_ k_)) ∧ Aside0 (Below w0.heap.size w0 w'))
               case atStart => exact ⟨(x0_46), (0), (by first | rfl | (simp; done) | (simp [*]; done)), H', ⟨Nat.le_refl _⟩, ⟨by (with_reducible repeat (first | apply Kd.R_alloc | apply Kd.R_drewN | apply Kd.R_drew)); exact HO_0.out⟩, ⟨by (with_reducible repeat (first | refine blk_drewN ?_ _ | refine blk_drew ?_ | refine blk_alloc ?_ _)); exact BK271.out⟩, ⟨by repeat (first | (with_reducible first | exact HK.out | apply Kept.alloc | apply Kept.drewN | apply Kept.drew | refine Kept.setCell ?_ (.inr GW271.out) _) | exact HK.out)⟩, ⟨pB⟩⟩
               case round =>
                clear H'
                try clear c1
                try clear c2
                try clear p2
                try clear c3
                try clear c4
                try clear c5
                try clear c6
                try clear c6b0
                try clear c6b1
                try clear p6
                try clear c9
                try clear c11
                try clear c11b0
                try clear c11b1
                try clear c14
                try clear c15
                try clear c20
                try clear c20b0
                try clear c20b1
                try clear c22
                try clear c29
                try clear c29b0
                try clear c29b1
                try clear c31
                try clear c32
                try clear c32b0
                try clear c39
                try clear c49
                try clear c49b0
                try clear c49b1
                try clear c51
                try clear c52
                try clear c52b0
                try clear c52b1
                try clear c61
                try clear c63
                try clear c63b0
                try clear c63b1
                try clear p64
                try clear hcz12_0 hcz12_1 hcz12_2 hcz12_3 hcz13_0 hcz13_1 hcz13_2 hcz13_3 hcz17_0 hcz17_1 hcz17_2 hcz17_3 hcz19_0 hcz19_1 hcz19_2 hcz19_3 hcz23_0 hcz23_1 hcz23_2 hcz23_3 hcz28_0 hcz28_1 hcz28_2 hcz28_3 hcz33_0 hcz33_1 hcz33_2 hcz33_3 hcz38_0 hcz38_1 hcz38_2 hcz38_3 hcz40_0 hcz40_1 hcz40_2 hcz40_3 hcz45_0 hcz45_1 hcz45_2 hcz45_3 hcz48_0 hcz48_1 hcz48_2 hcz48_3 hcz53_0 hcz53_1 hcz53_2 hcz53_3 hcz57_0 hcz57_1 hcz57_2 hcz57_3 hcz58_0 hcz58_1 hcz58_2 hcz58_3 hcz62_0 hcz62_1 hcz62_2 hcz62_3 hcz7_0 hcz7_1 hcz7_2 hcz7_3 hcz8_0 hcz8_1 hcz8_2 hcz8_3 hfz12_0 hfz12_1 hfz12_2 hfz12_3 hfz13_0 hfz13_1 hfz13_2 hfz13_3 hfz17_0 hfz17_1 hfz17_2 hfz17_3 hfz19_0 hfz19_1 hfz19_2 hfz19_3 hfz23_0 hfz23_1 hfz23_2 hfz23_3 hfz28_0 hfz28_1 hfz28_2 hfz28_3 hfz33_0 hfz33_1 hfz33_2 hfz33_3 hfz38_0 hfz38_1 hfz38_2 hfz38_3 hfz40_0 hfz40_1 hfz40_2 hfz40_3 hfz45_0 hfz45_1 hfz45_2 hfz45_3 hfz48_0 hfz48_1 hfz48_2 hfz48_3 hfz53_0 hfz53_1 hfz53_2 hfz53_3 hfz57_0 hfz57_1 hfz57_2 hfz57_3 hfz58_0 hfz58_1 hfz58_2 hfz58_3 hfz62_0 hfz62_1 hfz62_2 hfz62_3 hfz7_0 hfz7_1 hfz7_2 hfz7_3 hfz8_0 hfz8_1 hfz8_2 hfz8_3
                try clear p2
                try clear p6
                obtain ⟨x0_6, x8_6, rfl, HA, HK6, HO_0, BK271, HK, HB⟩ := hrel
                cases gk with
                | zero => exact absurd HA.out (by simp [minstrelref07_put.l0])
                | succ k6 =>
                 have H := HA.out
                 clear HA
                 simp only [minstrelref07_put.l0] at H
                 have HC66 := Aside0.mk H
                 clear H
                 go_upto_region 20 with (fail)
                 go_cut [87] (fun v87 wc => ∃ (kq : Nat) (x87_65 : Bool), v87 = .bool x87_65 ∧ Aside0 (minstrelref07_put.j6 kq x0_6 a2 x8_6 x87_65 a1_0 a1_1 a1_2 l1_3 = some (r1, r2)) ∧ Aside0 (kq ≤ k6) ∧ Aside0 (Kd.R (Kd.int .u8) 5 wc w0.heap.size (fun k_ => (P0_ k_ ∨ w.heap.size ≤ k_)) u0 x0_6) ∧ Aside0 (wc.heap[gb271]? = some (.cells #[.int .i64 a1_0, .int .u64 a1_1, .string a1_2, (.slice A1_3 l1_3.length c1_3)] 26 (0, 0))) ∧ Aside0 (Kept w wc (fun k_ => P0_ k_)) ∧ Aside0 (Below w0.heap.size w0 wc))
                 case first =>
                  have H := HC66.out
                  clear HC66
                  by_cases c67 : a1_0 = 2
                  ·rw [if_pos c67] at H
                   have c67b0 : (a1_0 == 2) = true := beq_iff_eq.mpr c67
                   have c67b1 : (a1_0 != 2) = false := bne_eq_false_iff_eq.mpr c67
                   clear c67
                   (first | rw [c67b0] | (simp only [i64_w, i32_w]; rw [c67b0]) | rw [c67b1] | (simp only [i64_w, i32_w]; rw [c67b1]) | skip)
                   have H' := Aside0.mk H
                   clear H
                   obtain ⟨hcz68_0, hcz68_1, hcz68_2, hcz68_3, hfz68_0, hfz68_1, hfz68_2, hfz68_3⟩ := cf4 BK271.out
                   go_wp2
                   go_meet
                   case rel => exact ⟨_, (decide (x8_6 < (l1_3.length : Int))), (by first | rfl | (simp; done) | (simp [*]; done)), H', ⟨by have := HJ3.out; have := HJ9.out; have := HJ15.out; have := HJ26.out; have := HJ46.out; have := HK6.out; first | omega | exact Nat.le_refl _⟩, ⟨by (with_reducible repeat (first | apply Kd.R_alloc | apply Kd.R_drewN | apply Kd.R_drew)); exact HO_0.out⟩, ⟨by (with_reducible repeat (first | refine blk_drewN ?_ _ | refine blk_drew ?_ | refine blk_alloc ?_ _)); exact BK271.out⟩, ⟨by repeat (first | (with_reducible first | exact HK.out | apply Kept.alloc | apply Kept.drewN | apply Kept.drew | refine Kept.setCell ?_ (.inr GW271.out) _) | exact HK.out)⟩, ⟨pB⟩⟩
                  ·rw [if_neg c67] at H
                   have c67b0 : (a1_0 == 2) = false := beq_eq_false_iff_ne.mpr c67
                   have c67b1 : (a1_0 != 2) = true := bne_iff_ne.mpr c67
                   (first | rw [c67b0] | (simp only [i64_w, i32_w]; rw [c67b0]) | rw [c67b1] | (simp only [i64_w, i32_w]; rw [c67b1]) | skip)
                   have H' := Aside0.mk H
                   clear H
                   obtain ⟨hcz69_0, hcz69_1, hcz69_2, hcz69_3, hfz69_0, hfz69_1, hfz69_2, hfz69_3⟩ := cf4 BK271.out
                   go_wp2
                   go_meet
                   case rel => exact ⟨_, (false), (by first | rfl | (simp; done) | (simp [*]; done)), H', ⟨by have := HJ3.out; have := HJ9.out; have := HJ15.out; have := HJ26.out; have := HJ46.out; have := HK6.out; first | omega | exact Nat.le_refl _⟩, ⟨by (with_reducible repeat (first | apply Kd.R_alloc | apply Kd.R_drewN | apply Kd.R_drew)); exact HO_0.out⟩, ⟨by (with_reducible repeat (first | refine blk_drewN ?_ _ | refine blk_drew ?_ | refine blk_alloc ?_ _)); exact BK271.out⟩, ⟨by repeat (first | (with_reducible first | exact HK.out | apply Kept.alloc | apply Kept.drewN | apply Kept.drew | refine Kept.setCell ?_ (.inr GW271.out) _) | exact HK.out)⟩, ⟨pB⟩⟩
                 case rest =>
                  clear HC66
                  try clear c1
                  try clear c2
                  try clear p2
                  try clear c3
                  try clear c4
                  try clear c5
                  try clear c6
                  try clear c6b0
                  try clear c6b1
                  try clear p6
                  try clear c9
                  try clear c11
                  try clear c11b0
                  try clear c11b1
                  try clear c14
                  try clear c15
                  try clear c20
                  try clear c20b0
                  try clear c20b1
                  try clear c22
                  try clear c29
                  try clear c29b0
                  try clear c29b1
                  try clear c31
                  try clear c32
                  try clear c32b0
                  try clear c39
                  try clear c49
                  try clear c49b0
                  try clear c49b1
                  try clear c51
                  try clear c52
                  try clear c52b0
                  try clear c52b1
                  try clear c61
                  try clear c63
                  try clear c63b0
                  try clear c63b1
                  try clear p64
                  try clear c67
                  try clear c67b0
                  try clear c67b1
                  try clear hcz12_0 hcz12_1 hcz12_2 hcz12_3 hcz13_0 hcz13_1 hcz13_2 hcz13_3 hcz17_0 hcz17_1 hcz17_2 hcz17_3 hcz19_0 hcz19_1 hcz19_2 hcz19_3 hcz23_0 hcz23_1 hcz23_2 hcz23_3 hcz28_0 hcz28_1 hcz28_2 hcz28_3 hcz33_0 hcz33_1 hcz33_2 hcz33_3 hcz38_0 hcz38_1 hcz38_2 hcz38_3 hcz40_0 hcz40_1 hcz40_2 hcz40_3 hcz45_0 hcz45_1 hcz45_2 hcz45_3 hcz48_0 hcz48_1 hcz48_2 hcz48_3 hcz53_0 hcz53_1 hcz53_2 hcz53_3 hcz57_0 hcz57_1 hcz57_2 hcz57_3 hcz58_0 hcz58_1 hcz58_2 hcz58_3 hcz62_0 hcz62_1 hcz62_2 hcz62_3 hcz68_0 hcz68_1 hcz68_2 hcz68_3 hcz69_0 hcz69_1 hcz69_2 hcz69_3 hcz7_0 hcz7_1 hcz7_2 hcz7_3 hcz8_0 hcz8_1 hcz8_2 hcz8_3 hfz12_0 hfz12_1 hfz12_2 hfz12_3 hfz13_0 hfz13_1 hfz13_2 hfz13_3 hfz17_0 hfz17_1 hfz17_2 hfz17_3 hfz19_0 hfz19_1 hfz19_2 hfz19_3 hfz23_0 hfz23_1 hfz23_2 hfz23_3 hfz28_0 hfz28_1 hfz28_2 hfz28_3 hfz33_0 hfz33_1 hfz33_2 hfz33_3 hfz38_0 hfz38_1 hfz38_2 hfz38_3 hfz40_0 hfz40_1 hfz40_2 hfz40_3 hfz45_0 hfz45_1 hfz45_2 hfz45_3 hfz48_0 hfz48_1 hfz48_2 hfz48_3 hfz53_0 hfz53_1 hfz53_2 hfz53_3 hfz57_0 hfz57_1 hfz57_2 hfz57_3 hfz58_0 hfz58_1 hfz58_2 hfz58_3 hfz62_0 hfz62_1 hfz62_2 hfz62_3 hfz68_0 hfz68_1 hfz68_2 hfz68_3 hfz69_0 hfz69_1 hfz69_2 hfz69_3 hfz7_0 hfz7_1 hfz7_2 hfz7_3 hfz8_0 hfz8_1 hfz8_2 hfz8_3
                  try clear p2
                  try clear p6
                  try clear p64
                  obtain ⟨kq, x87_65, rfl, HA, HJ65, HO_0, BK271, HK, HB⟩ := hcut
                  cases kq with
                  | zero => exact absurd HA.out (by simp [minstrelref07_put.j6])
                  | succ kj65 =>
                   have H := HA.out
                   clear HA
                   simp only [minstrelref07_put.j6] at H
                   by_cases c70 : x87_65 = true
                   ·subst c70
                    have H1 : (if 0 ≤ x8_6 then (if x8_6 < (l1_3.length : Int) then ((minstrelref07_put.f kj65 x0_6 ((rd_T26 l1_3 x8_6).f0) ((rd_T26 l1_3 x8_6).f1) ((rd_T26 l1_3 x8_6).f2) ((rd_T26 l1_3 x8_6).f3) (wrap64 (a2 + 1))).bind fun bt297 => (if bt297.2 = 0 then (minstrelref07_put.l0 kj65 bt297.1 a2 (wrap64 (x8_6 + 1)) a1_0 a1_1 a1_2 l1_3) else (some (([] : List Int), bt297.2)))) else (none)) else (none)) = some (r1, r2) := by rw [if_pos rfl] at H; exact H
                    clear H
                    have H := H1
                    clear H1
                    by_cases c71 : 0 ≤ x8_6
                    ·rw [if_pos c71] at H
                     have c71b0 : decide (0 ≤ x8_6) = true := decide_eq_true c71
                     clear c71
                     by_cases c72 : x8_6 < (l1_3.length : Int)
                     ·rw [if_pos c72] at H
                      have c72b0 : decide (x8_6 < (l1_3.length : Int)) = true := decide_eq_true c72
                      clear c72
                      replace H := Option.bind_eq_some_iff.mp H
                      obtain ⟨⟨t297, t300⟩, A730, H⟩ := H
                      replace H : (if t300 = 0 then (minstrelref07_put.l0 kj65 t297 a2 (wrap64 (x8_6 + 1)) a1_0 a1_1 a1_2 l1_3) else (some (([] : List Int), t300))) = some (r1, r2) := H
                      have A73 := Aside0.mk A730
                      clear A730
                      by_cases c74 : t300 = 0
                      ·rw [if_pos c74] at H
                       have c74b0 : (t300 == 0) = true := beq_iff_eq.mpr c74
                       have c74b1 : (t300 != 0) = false := bne_eq_false_iff_eq.mpr c74
                       clear c74
                       have H' := Aside0.mk H
                       clear H
                       obtain ⟨hcz75_0, hcz75_1, hcz75_2, hcz75_3, hfz75_0, hfz75_1, hfz75_2, hfz75_3⟩ := cf4 BK271.out
                       have p296 : 0 ≤ (x8_6 : Int) := pD
                       have q296 : x8_6 < (l1_3.length : Int) := pD
                       obtain ⟨ad296, A296_3, c296_3, e296, hx296_0, hx296_1, hx296_2, hx296_3, hl296_3, hi296_3⟩ := at_T26 HR1_3.out x8_6 p296 q296
                       replace hx296_0 := (HB.out.cell (World.block_lt_of_cell? _ _ hx296_0)).trans hx296_0
                       replace hx296_1 := (HB.out.cell (World.block_lt_of_cell? _ _ hx296_1)).trans hx296_1
                       replace hx296_2 := (HB.out.cell (World.block_lt_of_cell? _ _ hx296_2)).trans hx296_2
                       replace hx296_3 := (HB.out.cell (World.block_lt_of_cell? _ _ hx296_3)).trans hx296_3
                       cases e296
                       have HR296_3 := Aside0.mk hi296_3
                       have HC296_3 := Aside0.mk hl296_3
                       clear hi296_3 hl296_3
                       replace p296 := eq_true p296
                       replace q296 := eq_true q296
                       obtain ⟨Ao76, co76, eo76⟩ := Kd.R_slice HO_0.out
                       subst eo76
                       go_wp2_with (first | ((with_reducible refine gate_callee (f := 51) rfl ?_); refine goesL_ (some 99) rfl rfl Tryd.func51 (by kernel_rfl) rfl #[.slice Ao76 x0_6.length co76, .agg #[.int .i64 ((rd_T26 l1_3 x8_6).f0), .int .u64 ((rd_T26 l1_3 x8_6).f1), .string ((rd_T26 l1_3 x8_6).f2), .slice A296_3 ((rd_T26 l1_3 x8_6).f3).length c296_3], .int .i64 (wrap64 (a2 + 1))] rfl pM ?_; (with_reducible refine (ih kj65 (by have := HJ3.out; have := HJ9.out; have := HJ15.out; have := HJ26.out; have := HJ46.out; have := HK6.out; have := HJ65.out; omega) (fun k_ => some k_ = (.slice Ao76 x0_6.length co76 : Value).ownBlock) (.slice Ao76 x0_6.length co76) x0_6 ((rd_T26 l1_3 x8_6).f0) ((rd_T26 l1_3 x8_6).f1) ((rd_T26 l1_3 x8_6).f2) _ _ ((rd_T26 l1_3 x8_6).f3) (wrap64 (a2 + 1)) t297 t300 w0 _ ?side1 ?side2 ?side3 ?side4 A73.out).mono ?_); (case side1 => repeat (first | (with_reducible first | exact HB.out | apply below_alloc | apply pw_below_drewN | apply below_drew1 | refine below_set ?_ GE271.out) | exact HB.out)); (case side2 => exact Kd.R_tight rfl HO_0.out); (case side3 => exact HR296_3.out); (case side4 => exact HC296_3.out); rintro e w77 ⟨v298, rfl, ho0, hb, hkp⟩; refine ⟨_, rfl, ?_⟩; have n0_ := Aside0.mk (blk_kept (pK BK271.out) hkp (fun hs_ => (fun e_ => (pX HO_0.out BK271.out) e_) hs_)); have n1_ := Aside0.mk (Kd.R_mono (ok' := fun k_ => (P0_ k_ ∨ w.heap.size ≤ k_)) ho0 (fun k_ hk_ => Or.elim hk_ (fun hs_ => (HO_0.out.1 k_ (hs_).symm)) (fun hn_ => (.inr (Nat.le_trans (by first | exact HK.out.1 | exact (show Kept w _ (fun k_ => P0_ k_) from by repeat (first | (with_reducible first | exact HK.out | apply Kept.alloc | apply Kept.drewN | apply Kept.drew | refine Kept.setCell ?_ (.inr GW271.out) _) | exact HK.out)).1) hn_))))); have n2_ := Aside0.mk (Kept.then_ (S := (fun k_ => P0_ k_)) (by repeat (first | (with_reducible first | exact HK.out | apply Kept.alloc | apply Kept.drewN | apply Kept.drew | refine Kept.setCell ?_ (.inr GW271.out) _) | exact HK.out)) hkp (fun k_ hs_ => (fun e_ => (HO_0.out.1 k_ e_.symm)) hs_)); have n3_ := Aside0.mk (hb); clear BK271; clear HK; clear HB; clear HO_0; have BK271 := n0_; have HO299 := n1_; have HK := n2_; have HB := n3_; clear n0_ n1_ n2_ n3_; (try clear hb); (try clear hkp); (try clear ho0)))
                       go_roundg kj65
                       case measure => have := HJ3.out; have := HJ9.out; have := HJ15.out; have := HJ26.out; have := HJ46.out; have := HK6.out; have := HJ65.out; omega
                       case rel => exact ⟨(t297), (wrap64 (x8_6 + 1)), (by first | rfl | (simp; done) | (simp [*]; done)), H', ⟨by have := HJ3.out; have := HJ9.out; have := HJ15.out; have := HJ26.out; have := HJ46.out; have := HK6.out; have := HJ65.out; omega⟩, ⟨by (with_reducible repeat (first | apply Kd.R_alloc | apply Kd.R_drewN | apply Kd.R_drew)); exact HO299.out⟩, ⟨by (with_reducible repeat (first | refine blk_drewN ?_ _ | refine blk_drew ?_ | refine blk_alloc ?_ _)); exact BK271.out⟩, ⟨by repeat (first | (with_reducible first | exact HK.out | apply Kept.alloc | apply Kept.drewN | apply Kept.drew | refine Kept.setCell ?_ (.inr GW271.out) _) | exact HK.out)⟩, ⟨pB⟩⟩
                      ·rw [if_neg c74] at H
                       have c74b0 : (t300 == 0) = false := beq_eq_false_iff_ne.mpr c74
                       have c74b1 : (t300 != 0) = true := bne_iff_ne.mpr c74
                       simp only [Option.some.injEq, Prod.mk.injEq] at H
                       obtain ⟨rfl, rfl⟩ := H
                       obtain ⟨hcz78_0, hcz78_1, hcz78_2, hcz78_3, hfz78_0, hfz78_1, hfz78_2, hfz78_3⟩ := cf4 BK271.out
                       have p296 : 0 ≤ (x8_6 : Int) := pD
                       have q296 : x8_6 < (l1_3.length : Int) := pD
                       obtain ⟨ad296, A296_3, c296_3, e296, hx296_0, hx296_1, hx296_2, hx296_3, hl296_3, hi296_3⟩ := at_T26 HR1_3.out x8_6 p296 q296
                       replace hx296_0 := (HB.out.cell (World.block_lt_of_cell? _ _ hx296_0)).trans hx296_0
                       replace hx296_1 := (HB.out.cell (World.block_lt_of_cell? _ _ hx296_1)).trans hx296_1
                       replace hx296_2 := (HB.out.cell (World.block_lt_of_cell? _ _ hx296_2)).trans hx296_2
                       replace hx296_3 := (HB.out.cell (World.block_lt_of_cell? _ _ hx296_3)).trans hx296_3
                       cases e296
                       have HR296_3 := Aside0.mk hi296_3
                       have HC296_3 := Aside0.mk hl296_3
                       clear hi296_3 hl296_3
                       replace p296 := eq_true p296
                       replace q296 := eq_true q296
                       obtain ⟨Ao79, co79, eo79⟩ := Kd.R_slice HO_0.out
                       subst eo79
                       go_wp2_with (first | ((with_reducible refine gate_callee (f := 51) rfl ?_); refine goesL_ (some 99) rfl rfl Tryd.func51 (by kernel_rfl) rfl #[.slice Ao79 x0_6.length co79, .agg #[.int .i64 ((rd_T26 l1_3 x8_6).f0), .int .u64 ((rd_T26 l1_3 x8_6).f1), .string ((rd_T26 l1_3 x8_6).f2), .slice A296_3 ((rd_T26 l1_3 x8_6).f3).length c296_3], .int .i64 (wrap64 (a2 + 1))] rfl pM ?_; (with_reducible refine (ih kj65 (by have := HJ3.out; have := HJ9.out; have := HJ15.out; have := HJ26.out; have := HJ46.out; have := HK6.out; have := HJ65.out; omega) (fun k_ => some k_ = (.slice Ao79 x0_6.length co79 : Value).ownBlock) (.slice Ao79 x0_6.length co79) x0_6 ((rd_T26 l1_3 x8_6).f0) ((rd_T26 l1_3 x8_6).f1) ((rd_T26 l1_3 x8_6).f2) _ _ ((rd_T26 l1_3 x8_6).f3) (wrap64 (a2 + 1)) t297 t300 w0 _ ?side1 ?side2 ?side3 ?side4 A73.out).mono ?_); (case side1 => repeat (first | (with_reducible first | exact HB.out | apply below_alloc | apply pw_below_drewN | apply below_drew1 | refine below_set ?_ GE271.out) | exact HB.out)); (case side2 => exact Kd.R_tight rfl HO_0.out); (case side3 => exact HR296_3.out); (case side4 => exact HC296_3.out); rintro e w80 ⟨v298, rfl, ho0, hb, hkp⟩; refine ⟨_, rfl, ?_⟩; have n0_ := Aside0.mk (blk_kept (pK BK271.out) hkp (fun hs_ => (fun e_ => (pX HO_0.out BK271.out) e_) hs_)); have n1_ := Aside0.mk (Kd.R_mono (ok' := fun k_ => (P0_ k_ ∨ w.heap.size ≤ k_)) ho0 (fun k_ hk_ => Or.elim hk_ (fun hs_ => (HO_0.out.1 k_ (hs_).symm)) (fun hn_ => (.inr (Nat.le_trans (by first | exact HK.out.1 | exact (show Kept w _ (fun k_ => P0_ k_) from by repeat (first | (with_reducible first | exact HK.out | apply Kept.alloc | apply Kept.drewN | apply Kept.drew | refine Kept.setCell ?_ (.inr GW271.out) _) | exact HK.out)).1) hn_))))); have n2_ := Aside0.mk (Kept.then_ (S := (fun k_ => P0_ k_)) (by repeat (first | (with_reducible first | exact HK.out | apply Kept.alloc | apply Kept.drewN | apply Kept.drew | refine Kept.setCell ?_ (.inr GW271.out) _) | exact HK.out)) hkp (fun k_ hs_ => (fun e_ => (HO_0.out.1 k_ e_.symm)) hs_)); have n3_ := Aside0.mk (hb); clear BK271; clear HK; clear HB; clear HO_0; have BK271 := n0_; have HO299 := n1_; have HK := n2_; have HB := n3_; clear n0_ n1_ n2_ n3_; (try clear hb); (try clear hkp); (try clear ho0)))
                       go_ret2
                       exact ⟨_, pE, pZ, pB, by repeat (first | (with_reducible first | exact HK.out | apply Kept.alloc | apply Kept.drewN | apply Kept.drew | refine Kept.setCell ?_ (.inr GW271.out) _) | exact HK.out)⟩
                     ·rw [if_neg c72] at H
                      exact absurd H (by simp)
                    ·rw [if_neg c71] at H
                     exact absurd H (by simp)
                   ·replace c70 := Bool.eq_false_iff.mpr c70
                    subst c70
                    have H1 : (some (x0_6, 0)) = some (r1, r2) := by rw [if_neg (show ¬ (false = true) by decide)] at H; exact H
                    clear H
                    have H := H1
                    clear H1
                    simp only [Option.some.injEq, Prod.mk.injEq] at H
                    obtain ⟨rfl, rfl⟩ := H
                    go_wp2
                    go_ret2
                    exact ⟨_, pE, by (with_reducible repeat (first | apply Kd.R_alloc | apply Kd.R_drewN | apply Kd.R_drew)); exact HO_0.out, pB, by repeat (first | (with_reducible first | exact HK.out | apply Kept.alloc | apply Kept.drewN | apply Kept.drew | refine Kept.setCell ?_ (.inr GW271.out) _) | exact HK.out)⟩
       ·rw [if_neg c15] at H
        exact absurd H (by simp)
end Go.Proofs.YtlkaffbgekbcfaaDoor.Pr
end
section
namespace Go.Proofs.YtlkaffbgekbcfaaDoor.Pr
open Go.RowKit Go.Proofs.YtlkaffbgekbcfaaDoorW.PrintWords Go.Proofs.YtlkaffbgekbcfaaDoorW.PrintLast Go.Proofs.YtlkaffbgekbcfaaDoorW.PrintMore
attribute [local go_sem] max2_int min2_int max_two min_two max_three min_three max_four min_four
set_option linter.unusedVariables false
set_option linter.unusedSimpArgs false
def minstrelref07_Encode.f (k : Nat) (a0_0 : Int) (a0_1 : Int) (a0_2 : ByteArray) (l0_3 : List (S26)) : Option (List Int × Int) := (minstrelref07_put.f k ([] : List Int) a0_0 a0_1 a0_2 l0_3 0).bind fun bt302 => (some (bt302.1, bt302.2))
theorem minstrelref07_Encode.mono : ∀ a0 a1 a2 a3 k, LeO (minstrelref07_Encode.f k a0 a1 a2 a3) (minstrelref07_Encode.f (k + 1) a0 a1 a2 a3) := by
 intro a0 a1 a2 a3 k
 unfold minstrelref07_Encode.f
 repeat' first
   | (with_reducible exact minstrelref07_put.mono _ _ _ _ _ _ _)
   | (with_reducible exact LeO.refl _)
   | (with_reducible exact LeO.none _)
   | (with_reducible refine LeO.ite ?_ ?_)
   | (with_reducible refine LeO.bind ?_ (fun _ => ?_))
   | exact minstrelref07_put.mono _ _ _ _ _ _ _
   | exact LeO.none _
   | refine LeO.ite ?_ ?_
   | refine LeO.bind ?_ (fun _ => ?_)
set_option maxHeartbeats 8000000 in
set_option maxRecDepth 100000 in
theorem minstrelref07_Encode.calls (k : Nat) (a0_0 : Int) (a0_1 : Int) (a0_2 : ByteArray) (A0_3 : Option Addr) (c0_3 : Nat) (l0_3 : List (S26)) (r1 : List Int) (r2 : Int) (w : World) (hr0_3 : Kd.C k26 w A0_3 l0_3.length l0_3) (hc0_3 : l0_3.length ≤ c0_3) (h : minstrelref07_Encode.f k a0_0 a0_1 a0_2 l0_3 = some (r1, r2)) :
  Calls Tryd.prog 31 #[.agg #[.int .i64 a0_0, .int .u64 a0_1, .string a0_2, .slice A0_3 l0_3.length c0_3]] w fun e w' => ∃ v0_ : Value, e = .returned (.tuple #[v0_, .int .i64 r2]) ∧ Kd.R (Kd.int .u8) 5 w' w.heap.size (fun _ => True) v0_ r1 ∧ Below w.heap.size w w' := by
 have hu26 := Tryd.underlying26
 have HR0_3 := Aside0.mk hr0_3
 have HC0_3 := Aside0.mk hc0_3
 clear hr0_3 hc0_3
 have HB := Aside0.mk (Below.refl w.heap.size w)
 have H : ((minstrelref07_put.f k ([] : List Int) a0_0 a0_1 a0_2 l0_3 0).bind fun bt302 => (some (bt302.1, bt302.2))) = some (r1, r2) := h
 clear h
 replace H := Option.bind_eq_some_iff.mp H
 obtain ⟨⟨t302, t305⟩, A20, H⟩ := H
 replace H : (some (t302, t305)) = some (r1, r2) := H
 have A2 := Aside0.mk A20
 clear A20
 simp only [Option.some.injEq, Prod.mk.injEq] at H
 obtain ⟨rfl, rfl⟩ := H
 go_enter Tryd.func31, Tryd.ntmps31
 go_wp2_with (first | ((with_reducible refine gate_dst (N := 1) rfl ?_); refine box_event ?hg (N := 1) ?hd (cs := #[.int .i64 a0_0, .int .u64 a0_1, .string a0_2, .slice A0_3 l0_3.length c0_3]) (t := 26) ?hr ?_; (case hd => rfl); (case hg => rfl); (case hr => first | (go_simp; done) | (go_simp; rfl)); intro gb301 hg w3 hbox hb; have n0_ := Aside0.mk (below_step pB hb); have n1_ := Aside0.mk (hbox); have n2_ := Aside0.mk ((by rw [hg]; exact (below_size pB) : w.heap.size ≤ gb301)); have n3_ := Aside0.mk ((by rw [hg]; exact (below_size pB) : w.heap.size ≤ gb301)); clear HB; have HB := n0_; have BK301 := n1_; have GW301 := n2_; have GE301 := n3_; clear n0_ n1_ n2_ n3_; clear hb hbox hg; obtain ⟨hcz4_0, hcz4_1, hcz4_2, hcz4_3, hfz4_0, hfz4_1, hfz4_2, hfz4_3⟩ := cf4 BK301.out) | ((with_reducible refine gate_callee (f := 51) rfl ?_); refine goesL_ (some 5) rfl rfl Tryd.func51 (by kernel_rfl) rfl #[.slice none 0 0, .agg #[.int .i64 a0_0, .int .u64 a0_1, .string a0_2, .slice A0_3 l0_3.length c0_3], .int .i64 0] rfl pM ?_; (refine (minstrelref07_put.calls k (fun k_ => some k_ = (.slice none 0 0 : Value).ownBlock) (.slice none 0 0) ([] : List Int) a0_0 a0_1 a0_2 _ _ l0_3 0 t302 t305 w _ ?side1 ?side2 ?side3 ?side4 A2.out).mono ?_); (case side1 => repeat (first | (with_reducible first | exact HB.out | apply below_alloc | apply pw_below_drewN | apply below_drew1 | refine below_set ?_ GE301.out) | exact HB.out)); (case side2 => exact Kd.R_nil _ _ _ _ _); (case side3 => exact HR0_3.out); (case side4 => exact HC0_3.out); rintro e w5 ⟨v303, rfl, ho0, hb, hkp⟩; refine ⟨_, rfl, ?_⟩; have n0_ := Aside0.mk (blk_kept (pK BK301.out) hkp (fun hs_ => (fun e_ => by simp [Value.ownBlock] at e_) hs_)); have n1_ := Aside0.mk (Kd.R_mono (ok' := fun k_ => True) ho0 (fun k_ hk_ => trivial)); have n2_ := Aside0.mk (hb); clear BK301; clear HB; have BK301 := n0_; have HO304 := n1_; have HB := n2_; clear n0_ n1_ n2_; (try clear hb); (try clear hkp); (try clear ho0)))
 go_ret2
 exact ⟨_, pE, by (with_reducible repeat (first | apply Kd.R_alloc | apply Kd.R_drewN | apply Kd.R_drew)); exact HO304.out, pB⟩
def minstrelref07_List.f (l0 : List (S26)) : Option (Int × Int × ByteArray × (List (S26))) := some (2, 0, (⟨#[]⟩ : ByteArray), l0)
set_option maxHeartbeats 8000000 in
set_option maxRecDepth 100000 in
theorem minstrelref07_List.calls (P0_ : Nat → Prop) (A0 : Option Addr) (c0 : Nat) (l0 : List (S26)) (r1 : Int) (r2 : Int) (r3 : ByteArray) (r4 : List (S26)) (w : World) (hs0 : Kd.V k26 26 w w.heap.size (fun k_ => P0_ k_) (.slice A0 l0.length c0) l0) (h : minstrelref07_List.f l0 = some (r1, r2, r3, r4)) :
  Calls Tryd.prog 32 #[.slice A0 l0.length c0] w fun e w' => ∃ v3_ : Value, e = .returned (.agg #[.int .i64 r1, .int .u64 r2, .string r3, v3_]) ∧ Kd.V k26 26 w' w.heap.size (fun k_ => (P0_ k_ ∨ w.heap.size ≤ k_)) v3_ r4 ∧ Below w.heap.size w w' := by
 have hu26 := Tryd.underlying26
 have HO0 := Aside0.mk (show Kd.V k26 26 w w.heap.size (fun k_ => (P0_ k_ ∨ w.heap.size ≤ k_)) (.slice A0 l0.length c0) l0 from Kd.V_mono hs0 (fun k_ hk => .inl hk))
 have HB := Aside0.mk (Below.refl w.heap.size w)
 have H : (some (2, 0, (⟨#[]⟩ : ByteArray), l0)) = some (r1, r2, r3, r4) := h
 clear h
 simp only [Option.some.injEq, Prod.mk.injEq] at H
 obtain ⟨rfl, rfl, rfl, rfl⟩ := H
 go_enter Tryd.func32, Tryd.ntmps32
 go_wp2_with (first | ((with_reducible refine gate_dst (N := 2) rfl ?_); refine box_event ?hg (N := 2) ?hd (cs := #[.int .i64 0, .int .u64 0, .string (⟨#[]⟩ : ByteArray), .slice none 0 0]) (t := 26) ?hr ?_; (case hd => rfl); (case hg => rfl); (case hr => first | (go_simp; done) | (go_simp; rfl)); intro gb306 hg w2 hbox hb; have n0_ := Aside0.mk (Kd.V_below (Kd.V_elderB (pV HO0.out) gb306 (Nat.le_of_eq hg.symm)) hb); have n1_ := Aside0.mk (below_step pB hb); have n2_ := Aside0.mk (hbox); have n3_ := Aside0.mk ((by rw [hg]; exact (below_size pB) : w.heap.size ≤ gb306)); have n4_ := Aside0.mk ((by rw [hg]; exact (below_size pB) : w.heap.size ≤ gb306)); clear HO0; clear HB; have HO0 := n0_; have HB := n1_; have BK306 := n2_; have GW306 := n3_; have GE306 := n4_; clear n0_ n1_ n2_ n3_ n4_; clear hb hbox hg; obtain ⟨hcz3_0, hcz3_1, hcz3_2, hcz3_3, hfz3_0, hfz3_1, hfz3_2, hfz3_3⟩ := cf4 BK306.out))
 refine bodyPost_ret (results_cell_row rfl _ _ gb306 26 #[.int .i64 2, .int .u64 0, .string (⟨#[]⟩ : ByteArray), .slice A0 l0.length c0] (0, 0) _ rfl (by (with_reducible repeat (first | refine blk_drewN ?_ _ | refine blk_drew ?_ | refine blk_alloc ?_ _)); refine blk_put (cs := #[.int .i64 2, .int .u64 0, .string (⟨#[]⟩ : ByteArray), .slice none 0 0]) ?_ 3 _ rfl; (with_reducible repeat (first | refine blk_drewN ?_ _ | refine blk_drew ?_ | refine blk_alloc ?_ _)); refine blk_put (cs := #[.int .i64 2, .int .u64 0, .string (⟨#[]⟩ : ByteArray), .slice none 0 0]) ?_ 2 _ rfl; (with_reducible repeat (first | refine blk_drewN ?_ _ | refine blk_drew ?_ | refine blk_alloc ?_ _)); refine blk_put (cs := #[.int .i64 2, .int .u64 0, .string (⟨#[]⟩ : ByteArray), .slice none 0 0]) ?_ 1 _ rfl; (with_reducible repeat (first | refine blk_drewN ?_ _ | refine blk_drew ?_ | refine blk_alloc ?_ _)); refine blk_put (cs := #[.int .i64 0, .int .u64 0, .string (⟨#[]⟩ : ByteArray), .slice none 0 0]) ?_ 0 _ rfl; (with_reducible repeat (first | refine blk_drewN ?_ _ | refine blk_drew ?_ | refine blk_alloc ?_ _)); exact BK306.out) Tryd.underlying26 rfl (by kernel_rfl)) rfl ?_
 exact ⟨_, pE, by (with_reducible repeat (first | apply Kd.V_alloc | apply Kd.V_drewN | apply Kd.V_drew)); exact Kd.V_mono (Kd.V_far (p := ⟨gb306, 3, none⟩) (Kd.V_far (p := ⟨gb306, 2, none⟩) (Kd.V_far (p := ⟨gb306, 1, none⟩) (Kd.V_far (p := ⟨gb306, 0, none⟩) (Kd.V_mono HO0.out (fun k_ hk => (⟨hk, hk.2⟩ : _ ∧ k_ ≠ gb306))) (fun _ hk => hk.2) (.int .i64 2)) (fun _ hk => hk.2) (.int .u64 0)) (fun _ hk => hk.2) (.string (⟨#[]⟩ : ByteArray))) (fun _ hk => hk.2) (.slice A0 l0.length c0)) (fun _ hk => hk.1.1), pB⟩
def minstrelref07_Number.f (a0 : Int) : Option (Int × Int × ByteArray × (List (S26))) := some (0, a0, (⟨#[]⟩ : ByteArray), ([] : List (S26)))
set_option maxHeartbeats 8000000 in
set_option maxRecDepth 100000 in
theorem minstrelref07_Number.calls (a0 : Int) (r1 : Int) (r2 : Int) (r3 : ByteArray) (r4 : List (S26)) (w : World) (h : minstrelref07_Number.f a0 = some (r1, r2, r3, r4)) :
  Calls Tryd.prog 33 #[.int .u64 a0] w fun e w' => ∃ v3_ : Value, e = .returned (.agg #[.int .i64 r1, .int .u64 r2, .string r3, v3_]) ∧ Kd.R k26 26 w' w.heap.size (fun _ => True) v3_ r4 ∧ Below w.heap.size w w' := by
 have hu26 := Tryd.underlying26
 have HB := Aside0.mk (Below.refl w.heap.size w)
 have H : (some (0, a0, (⟨#[]⟩ : ByteArray), ([] : List (S26)))) = some (r1, r2, r3, r4) := h
 clear h
 simp only [Option.some.injEq, Prod.mk.injEq] at H
 obtain ⟨rfl, rfl, rfl, rfl⟩ := H
 go_enter Tryd.func33, Tryd.ntmps33
 go_wp2_with (first | ((with_reducible refine gate_dst (N := 2) rfl ?_); refine box_event ?hg (N := 2) ?hd (cs := #[.int .i64 0, .int .u64 0, .string (⟨#[]⟩ : ByteArray), .slice none 0 0]) (t := 26) ?hr ?_; (case hd => rfl); (case hg => rfl); (case hr => first | (go_simp; done) | (go_simp; rfl)); intro gb307 hg w2 hbox hb; have n0_ := Aside0.mk (below_step pB hb); have n1_ := Aside0.mk (hbox); have n2_ := Aside0.mk ((by rw [hg]; exact (below_size pB) : w.heap.size ≤ gb307)); have n3_ := Aside0.mk ((by rw [hg]; exact (below_size pB) : w.heap.size ≤ gb307)); clear HB; have HB := n0_; have BK307 := n1_; have GW307 := n2_; have GE307 := n3_; clear n0_ n1_ n2_ n3_; clear hb hbox hg; obtain ⟨hcz3_0, hcz3_1, hcz3_2, hcz3_3, hfz3_0, hfz3_1, hfz3_2, hfz3_3⟩ := cf4 BK307.out))
 refine bodyPost_ret (results_cell_row rfl _ _ gb307 26 #[.int .i64 0, .int .u64 a0, .string (⟨#[]⟩ : ByteArray), .slice none 0 0] (0, 0) _ rfl (by (with_reducible repeat (first | refine blk_drewN ?_ _ | refine blk_drew ?_ | refine blk_alloc ?_ _)); refine blk_put (cs := #[.int .i64 0, .int .u64 a0, .string (⟨#[]⟩ : ByteArray), .slice none 0 0]) ?_ 3 _ rfl; (with_reducible repeat (first | refine blk_drewN ?_ _ | refine blk_drew ?_ | refine blk_alloc ?_ _)); refine blk_put (cs := #[.int .i64 0, .int .u64 a0, .string (⟨#[]⟩ : ByteArray), .slice none 0 0]) ?_ 2 _ rfl; (with_reducible repeat (first | refine blk_drewN ?_ _ | refine blk_drew ?_ | refine blk_alloc ?_ _)); refine blk_put (cs := #[.int .i64 0, .int .u64 0, .string (⟨#[]⟩ : ByteArray), .slice none 0 0]) ?_ 1 _ rfl; (with_reducible repeat (first | refine blk_drewN ?_ _ | refine blk_drew ?_ | refine blk_alloc ?_ _)); refine blk_put (cs := #[.int .i64 0, .int .u64 0, .string (⟨#[]⟩ : ByteArray), .slice none 0 0]) ?_ 0 _ rfl; (with_reducible repeat (first | refine blk_drewN ?_ _ | refine blk_drew ?_ | refine blk_alloc ?_ _)); exact BK307.out) Tryd.underlying26 rfl (by kernel_rfl)) rfl ?_
 exact ⟨_, pE, pZ, pB⟩
def minstrelref19_members.l0 : Nat → List Int → List (S26) → Int → Option (Int × Int × ByteArray × (List (S26)))
 | 0, _, _, _ => none
 | k + 1, x0, x3, x4 => if x4 < (x0.length : Int) then (if 0 ≤ x4 then ((minstrelref07_Number.f (IntKind.u64.wrap (rd x0 x4))).bind fun bt313 => (if x3.length < 2513169434916 then (minstrelref19_members.l0 k x0 (x3 ++ [(⟨bt313.1, bt313.2.1, bt313.2.2.1, bt313.2.2.2⟩ : S26)]) (wrap64 (x4 + 1))) else (none))) else (none)) else ((minstrelref07_List.f x3).bind fun bt322 => (some (bt322.1, bt322.2.1, bt322.2.2.1, bt322.2.2.2)))
def minstrelref19_members.f (k : Nat) (l0 : List Int) : Option (Int × Int × ByteArray × (List (S26))) := minstrelref19_members.l0 k l0 (([] : List (S26))) 0
theorem minstrelref19_members.mono_l : ∀ k, (∀ y0 y1 y2, LeO (minstrelref19_members.l0 k y0 y1 y2) (minstrelref19_members.l0 (k + 1) y0 y1 y2))
 | 0 => fun _ _ _ r h => by simp [minstrelref19_members.l0] at h
 | k + 1 => by
  have ih0 := minstrelref19_members.mono_l k
  ·intro y0 y1 y2
   unfold minstrelref19_members.l0
   repeat' first
   | (with_reducible exact ih0 _ _ _)
   | (with_reducible exact LeO.refl _)
   | (with_reducible exact LeO.none _)
   | (with_reducible refine LeO.ite ?_ ?_)
   | (with_reducible refine LeO.bind ?_ (fun _ => ?_))
   | exact ih0 _ _ _
   | exact LeO.none _
   | refine LeO.ite ?_ ?_
   | refine LeO.bind ?_ (fun _ => ?_)
theorem minstrelref19_members.mono : ∀ a0 k, LeO (minstrelref19_members.f k a0) (minstrelref19_members.f (k + 1) a0) := by
 intro a0 k
 have ih0 := minstrelref19_members.mono_l k
 unfold minstrelref19_members.f
 repeat' first
   | (with_reducible exact ih0 _ _ _)
   | (with_reducible exact LeO.refl _)
   | (with_reducible exact LeO.none _)
   | (with_reducible refine LeO.ite ?_ ?_)
   | (with_reducible refine LeO.bind ?_ (fun _ => ?_))
   | exact ih0 _ _ _
   | exact LeO.none _
   | refine LeO.ite ?_ ?_
   | refine LeO.bind ?_ (fun _ => ?_)
set_option maxHeartbeats 8000000 in
set_option maxRecDepth 100000 in
theorem minstrelref19_members.calls (k : Nat) (A0 : Option Addr) (c0 : Nat) (l0 : List Int) (r1 : Int) (r2 : Int) (r3 : ByteArray) (r4 : List (S26)) (w : World) (hr0 : Kd.C (Kd.int .i64) w A0 l0.length l0) (hc0 : l0.length ≤ c0) (h : minstrelref19_members.f k l0 = some (r1, r2, r3, r4)) :
  Calls Tryd.prog 34 #[.slice A0 l0.length c0] w fun e w' => ∃ v3_ : Value, e = .returned (.agg #[.int .i64 r1, .int .u64 r2, .string r3, v3_]) ∧ Kd.V k26 26 w' w.heap.size (fun k_ => (w.heap.size ≤ k_)) v3_ r4 ∧ Below w.heap.size w w' := by
 have hu26 := Tryd.underlying26
 have HR0 := Aside0.mk hr0
 have HC0 := Aside0.mk hc0
 clear hr0 hc0
 have HB := Aside0.mk (Below.refl w.heap.size w)
 have H : (minstrelref19_members.l0 k l0 (([] : List (S26))) 0) = some (r1, r2, r3, r4) := h
 clear h
 obtain ⟨y309, hy309⟩ : ∃ y_ : List (S26), y_ = (([] : List (S26))) := ⟨_, rfl⟩
 replace H : (minstrelref19_members.l0 k l0 y309 0) = some (r1, r2, r3, r4) := by first | (rw [hy309]; with_reducible exact H) | (have H2_ := (Option.bind_some _ _).symm.trans H; rw [hy309]; with_reducible exact H2_) | (have H2_ := (Option.bind_some _ _).symm.trans H; with_reducible exact H2_) | with_reducible exact H | (rw [hy309]; exact H) | exact H
 have Ny309 := Aside0.mk hy309
 clear hy309
 have H' := Aside0.mk H
 clear H
 go_enter Tryd.func34, Tryd.ntmps34
 go_wp2_with (first | ((with_reducible refine gate_dst (N := 2) rfl ?_); refine box_event ?hg (N := 2) ?hd (cs := #[.int .i64 0, .int .u64 0, .string (⟨#[]⟩ : ByteArray), .slice none 0 0]) (t := 26) ?hr ?_; (case hd => rfl); (case hg => rfl); (case hr => first | (go_simp; done) | (go_simp; rfl)); intro gb308 hg w2 hbox hb; have n0_ := Aside0.mk (below_step pB hb); have n1_ := Aside0.mk (hbox); have n2_ := Aside0.mk ((by rw [hg]; exact (below_size pB) : w.heap.size ≤ gb308)); have n3_ := Aside0.mk ((by rw [hg]; exact (below_size pB) : w.heap.size ≤ gb308)); clear HB; have HB := n0_; have BK308 := n1_; have GW308 := n2_; have GE308 := n3_; clear n0_ n1_ n2_ n3_; clear hb hbox hg) | ((with_reducible refine gate_dst (N := 5) rfl ?_); refine Kd.R_lit k26 _ 26 ?hg (N := 5) ?hd (xs := ([] : List (S26))) (inner := []) (ok := fun _ => True) (okp := fun _ => True) ?hr ?hp (fun _ hk => hk) trivial (Below.refl _ _) (Nat.le_refl _) (by simp) ?_; (case hd => rfl); (case hg => rfl); (case hr => first | (go_simp; done) | (go_simp; rfl)); (case hp => exact (Reps.none _ _)); intro v310 w3 ho4 hb hg_ hnew_; clear hg_ hnew_; (first | rw [← Ny309.out] at ho4 | (simp only [Int.reduceToNat] at ho4; rw [← Ny309.out] at ho4)); have n0_ := Aside0.mk (Kd.R_lower (Kd.R_newB (Kd.R_newM (M := fun k_ => (w.heap.size ≤ k_)) ho4 (below_size pB) (fun k_ h_ => h_)) (g := gb308) (o := .cells #[.int .i64 0, .int .u64 0, .string (⟨#[]⟩ : ByteArray), .slice none 0 0] 26 (0, 0)) (pK BK308.out)) (below_size pB)); have n1_ := Aside0.mk (pkb BK308.out hb); have n2_ := Aside0.mk (below_step pB hb); clear BK308; clear HB; have HO311 := n0_; have BK308 := n1_; have HB := n2_; clear n0_ n1_ n2_; clear hb ho4))
 go_loopg [3, 4] k (fun kq v3 v4 w' => ∃ (x3_1 : List (S26)) (x4_1 : Int), v4 = .int .i64 x4_1 ∧ Aside0 (minstrelref19_members.l0 kq l0 x3_1 x4_1 = some (r1, r2, r3, r4)) ∧ Aside0 (kq ≤ k) ∧ Aside0 (Kd.R k26 26 w' w.heap.size (fun k_ => (w.heap.size ≤ k_) ∧ k_ ≠ gb308) v3 x3_1) ∧ Aside0 (w'.heap[gb308]? = some (.cells #[.int .i64 0, .int .u64 0, .string (⟨#[]⟩ : ByteArray), (.slice none 0 0)] 26 (0, 0))) ∧ Aside0 (Below w.heap.size w w'))
 case atStart => exact ⟨(y309), (0), (by first | rfl | (simp; done) | (simp [*]; done)), H', ⟨Nat.le_refl _⟩, ⟨by (with_reducible repeat (first | apply Kd.R_alloc | apply Kd.R_drewN | apply Kd.R_drew)); exact Kd.R_mono HO311.out (fun _ hk => ⟨hk.1.1, hk.2⟩)⟩, ⟨by (with_reducible repeat (first | refine blk_drewN ?_ _ | refine blk_drew ?_ | refine blk_alloc ?_ _)); exact BK308.out⟩, ⟨pB⟩⟩
 case round =>
  clear H'
  try clear p2
  try clear c3
  obtain ⟨x3_1, x4_1, rfl, HA, HK1, HO_3, BK308, HB⟩ := hrel
  cases gk with
  | zero => exact absurd HA.out (by simp [minstrelref19_members.l0])
  | succ k1 =>
   have H := HA.out
   clear HA
   simp only [minstrelref19_members.l0] at H
   by_cases c5 : x4_1 < (l0.length : Int)
   ·rw [if_pos c5] at H
    have c5b0 : decide (x4_1 < (l0.length : Int)) = true := decide_eq_true c5
    clear c5
    by_cases c6 : 0 ≤ x4_1
    ·rw [if_pos c6] at H
     have c6b0 : decide (0 ≤ x4_1) = true := decide_eq_true c6
     clear c6
     replace H := Option.bind_eq_some_iff.mp H
     obtain ⟨⟨t313, t314, t315, t316⟩, A70, H⟩ := H
     replace H : (if x3_1.length < 2513169434916 then (minstrelref19_members.l0 k1 l0 (x3_1 ++ [(⟨t313, t314, t315, t316⟩ : S26)]) (wrap64 (x4_1 + 1))) else (none)) = some (r1, r2, r3, r4) := H
     have A7 := Aside0.mk A70
     clear A70
     by_cases c8 : x3_1.length < 2513169434916
     ·rw [if_pos c8] at H
      have LMc8 := Aside0.mk c8
      clear c8
      obtain ⟨y319, hy319⟩ : ∃ y_ : List (S26), y_ = (x3_1 ++ [(⟨t313, t314, t315, t316⟩ : S26)]) := ⟨_, rfl⟩
      replace H : (minstrelref19_members.l0 k1 l0 y319 (wrap64 (x4_1 + 1))) = some (r1, r2, r3, r4) := by first | (rw [hy319]; with_reducible exact H) | (have H2_ := (Option.bind_some _ _).symm.trans H; rw [hy319]; with_reducible exact H2_) | (have H2_ := (Option.bind_some _ _).symm.trans H; with_reducible exact H2_) | with_reducible exact H | (rw [hy319]; exact H) | exact H
      have Ny319 := Aside0.mk hy319
      clear hy319
      have H' := Aside0.mk H
      clear H
      have p312 : 0 ≤ (x4_1 : Int) := pD
      have q312 : x4_1 < (l0.length : Int) := pD
      obtain ⟨ad312, e312, hx312_0⟩ := Kd.at_int HR0.out x4_1 p312 q312
      cases e312
      replace hx312_0 := (HB.out.cell (World.block_lt_of_cell? w _ hx312_0)).trans hx312_0
      replace p312 := eq_true p312
      replace q312 := eq_true q312
      go_wp2_with (first | ((with_reducible refine gate_callee (f := 33) rfl ?_); refine goesL_ (some 18) rfl rfl Tryd.func33 (by kernel_rfl) rfl #[.int .u64 (IntKind.u64.wrap (rd l0 x4_1))] rfl pM ?_; (with_reducible refine (minstrelref07_Number.calls (IntKind.u64.wrap (rd l0 x4_1)) t313 t314 t315 t316 _ A7.out).mono ?_); rintro e w9 ⟨v317, rfl, ho0, hb⟩; refine ⟨_, rfl, ?_⟩; have n0_ := Aside0.mk (Kd.R_elder' (pR HO_3.out) (Kd.R_base ho0) hb); have n1_ := Aside0.mk (Kd.R_lower (Kd.R_newB (Kd.R_new' (Kd.R_newM (M := fun k_ => (w.heap.size ≤ k_)) ho0 (below_size pB) (fun k_ h_ => h_)) (Kd.R_lt (pR HO_3.out))) (g := gb308) (o := .cells #[.int .i64 0, .int .u64 0, .string (⟨#[]⟩ : ByteArray), .slice none 0 0] 26 (0, 0)) (pK BK308.out)) (below_size pB)); have n2_ := Aside0.mk (pkb BK308.out hb); have n3_ := Aside0.mk (below_step pB hb); clear HO_3; clear BK308; clear HB; have HO_3 := n0_; have HO318 := n1_; have BK308 := n2_; have HB := n3_; clear n0_ n1_ n2_ n3_; (try clear hb); (try clear hb2); (try clear hk); (try clear hi); (try clear ho0); obtain ⟨Ao11, co11, eo11⟩ := Kd.R_slice HO318.out; subst eo11) | ((with_reducible refine gate_builtin (b := .append) (xs := #[.tmp 12, .tmp 19]) rfl ?_); at_builtin; refine Kd.R_append k26 (w0 := w) w.heap.size rfl (.tmp 12) (.tmp 19) 24 26 (.agg #[(.int .i64 0), (.int .u64 0), (.string ⟨#[]⟩), (.slice none 0 0)]) 56 rfl Tryd.underlying24 info26 rfl (by decide) (by omega) u3 x3_1 (⟨t313, t314, t315, t316⟩ : S26) [.int .i64 t313, .int .u64 t314, .string t315, .slice Ao11 t316.length co11] (fun k_ => (w.heap.size ≤ k_) ∧ k_ ≠ gb308) (fun k_ => ((fun k_ => (w.heap.size ≤ k_) ∧ k_ ≠ gb308)) k_ ∧ some k_ ≠ (u3 : Value).ownBlock) rfl rfl ?aP (fun _ hk => hk) ?aF ?aO ?aB ?aS ?aL ?_; (case aP => exact k26_mkM _ _ _ (⟨t313, t314, t315, t316⟩ : S26) (Kd.R_mono (HO318.out) (fun k_ hk => ⟨⟨hk.1.1.1, hk.2⟩, hk.1.2⟩))); (case aB => exact pB); (case aF => exact (fun k_ hk => ⟨(Nat.le_trans (below_size pB) hk), Kd.freshB (g := gb308) (o := .cells #[.int .i64 0, .int .u64 0, .string (⟨#[]⟩ : ByteArray), .slice none 0 0] 26 (0, 0)) (pK BK308.out) k_ hk⟩)); (case aO => exact (by (with_reducible repeat (first | apply Kd.R_alloc | apply Kd.R_drewN | apply Kd.R_drew)); exact Kd.R_mono HO_3.out (fun _ hk => ⟨hk.1.1, hk.1.2⟩))); (case aS => exact (below_size pB)); (case aL => have := LMc8.out; omega); intro v320 w10 ho hb hg hat; rw [← Ny319.out] at ho; have n0_ := Aside0.mk (blk_grown (g := gb308) (o := .cells #[.int .i64 0, .int .u64 0, .string (⟨#[]⟩ : ByteArray), .slice none 0 0] 26 (0, 0)) (pK BK308.out) hg (Kd.R_away HO_3.out (fun _ hk => hk.1.2))); have n1_ := Aside0.mk (hb); have n2_ := Aside0.mk (ho); clear BK308; clear HB; clear HO_3; clear HO318; have BK308 := n0_; have HB := n1_; have HO321 := n2_; clear n0_ n1_ n2_; clear ho hb hg hat))
      go_roundg k1
      case measure => have := HK1.out; omega
      case rel => exact ⟨(y319), (wrap64 (x4_1 + 1)), (by first | rfl | (simp; done) | (simp [*]; done)), H', ⟨by have := HK1.out; omega⟩, ⟨by (with_reducible repeat (first | apply Kd.R_alloc | apply Kd.R_drewN | apply Kd.R_drew)); exact HO321.out⟩, ⟨by (with_reducible repeat (first | refine blk_drewN ?_ _ | refine blk_drew ?_ | refine blk_alloc ?_ _)); exact BK308.out⟩, ⟨pB⟩⟩
     ·rw [if_neg c8] at H
      exact absurd H (by simp)
    ·rw [if_neg c6] at H
     exact absurd H (by simp)
   ·rw [if_neg c5] at H
    have c5b0 : decide (x4_1 < (l0.length : Int)) = false := decide_eq_false c5
    clear c5
    replace H := Option.bind_eq_some_iff.mp H
    obtain ⟨⟨t322, t323, t324, t325⟩, A120, H⟩ := H
    replace H : (some (t322, t323, t324, t325)) = some (r1, r2, r3, r4) := H
    have A12 := Aside0.mk A120
    clear A120
    simp only [Option.some.injEq, Prod.mk.injEq] at H
    obtain ⟨rfl, rfl, rfl, rfl⟩ := H
    obtain ⟨Ao13, co13, eo13⟩ := Kd.R_slice HO_3.out
    subst eo13
    go_wp2_with (first | ((with_reducible refine gate_callee (f := 32) rfl ?_); refine goesL_ (some 22) rfl rfl Tryd.func32 (by kernel_rfl) rfl #[.slice Ao13 x3_1.length co13] rfl pM ?_; (with_reducible refine (minstrelref07_List.calls (fun k_ => ((w.heap.size ≤ k_) ∧ k_ ≠ gb308)) _ _ x3_1 t322 t323 t324 t325 _ ?side1 A12.out).mono ?_); (case side1 => exact Kd.R_V (HO_3.out)); rintro e w14 ⟨v326, rfl, ho0, hb⟩; refine ⟨_, rfl, ?_⟩; have n0_ := Aside0.mk (Kd.R_below (pR HO_3.out) hb); have n1_ := Aside0.mk (Kd.V_lower (Kd.V_mono (ok' := fun k_ => (w.heap.size ≤ k_) ∧ k_ ≠ gb308) ho0 (fun k_ hk_ => ⟨Or.elim hk_ (fun hs_ => hs_.1) (fun hn_ => (Nat.le_trans (below_size pB) hn_)), Or.elim hk_ (fun hs_ => hs_.2) (fun hn_ => (Kd.freshB (g := gb308) (o := .cells #[.int .i64 0, .int .u64 0, .string (⟨#[]⟩ : ByteArray), .slice none 0 0] 26 (0, 0)) (pK BK308.out) k_ hn_))⟩)) (below_size pB)); have n2_ := Aside0.mk (pkb BK308.out hb); have n3_ := Aside0.mk (below_step pB hb); clear HO_3; clear BK308; clear HB; have HO_3 := n0_; have HO327 := n1_; have BK308 := n2_; have HB := n3_; clear n0_ n1_ n2_ n3_; (try clear hb); (try clear hb2); (try clear hk); (try clear hi); (try clear ho0); obtain ⟨hcz15_0, hcz15_1, hcz15_2, hcz15_3, hfz15_0, hfz15_1, hfz15_2, hfz15_3⟩ := cf4 BK308.out; obtain ⟨Ao16, co16, eo16⟩ := Kd.V_slice HO327.out; subst eo16))
    refine bodyPost_ret (results_cell_row rfl _ _ gb308 26 #[.int .i64 t322, .int .u64 t323, .string t324, .slice Ao16 t325.length co16] (0, 0) _ rfl (by (with_reducible repeat (first | refine blk_drewN ?_ _ | refine blk_drew ?_ | refine blk_alloc ?_ _)); refine blk_put (cs := #[.int .i64 t322, .int .u64 t323, .string t324, .slice none 0 0]) ?_ 3 _ rfl; (with_reducible repeat (first | refine blk_drewN ?_ _ | refine blk_drew ?_ | refine blk_alloc ?_ _)); refine blk_put (cs := #[.int .i64 t322, .int .u64 t323, .string (⟨#[]⟩ : ByteArray), .slice none 0 0]) ?_ 2 _ rfl; (with_reducible repeat (first | refine blk_drewN ?_ _ | refine blk_drew ?_ | refine blk_alloc ?_ _)); refine blk_put (cs := #[.int .i64 t322, .int .u64 0, .string (⟨#[]⟩ : ByteArray), .slice none 0 0]) ?_ 1 _ rfl; (with_reducible repeat (first | refine blk_drewN ?_ _ | refine blk_drew ?_ | refine blk_alloc ?_ _)); refine blk_put (cs := #[.int .i64 0, .int .u64 0, .string (⟨#[]⟩ : ByteArray), .slice none 0 0]) ?_ 0 _ rfl; (with_reducible repeat (first | refine blk_drewN ?_ _ | refine blk_drew ?_ | refine blk_alloc ?_ _)); exact BK308.out) Tryd.underlying26 rfl (by kernel_rfl)) rfl ?_
    exact ⟨_, pE, by (with_reducible repeat (first | apply Kd.V_alloc | apply Kd.V_drewN | apply Kd.V_drew)); exact Kd.V_mono (Kd.V_far (p := ⟨gb308, 3, none⟩) (Kd.V_far (p := ⟨gb308, 2, none⟩) (Kd.V_far (p := ⟨gb308, 1, none⟩) (Kd.V_far (p := ⟨gb308, 0, none⟩) (Kd.V_mono HO327.out (fun k_ hk => (⟨hk, hk.2⟩ : _ ∧ k_ ≠ gb308))) (fun _ hk => hk.2) (.int .i64 t322)) (fun _ hk => hk.2) (.int .u64 t323)) (fun _ hk => hk.2) (.string t324)) (fun _ hk => hk.2) (.slice Ao16 t325.length co16)) (fun _ hk => hk.1.1), pB⟩
def minstrelref06_Four.f (a0 : Int) : Option (List Int) := some (([(a0 / 16777216) % 256, (Go.bits .and .u32 (a0 / 65536) 255) % 256, (Go.bits .and .u32 (a0 / 256) 255) % 256, (Go.bits .and .u32 a0 255) % 256] : List Int))
set_option maxHeartbeats 8000000 in
set_option maxRecDepth 100000 in
theorem minstrelref06_Four.calls (a0 : Int) (r : List Int) (w : World) (h : minstrelref06_Four.f a0 = some r) :
  Calls Tryd.prog 52 #[.int .u32 a0] w fun e w' => ∃ v0_ : Value, e = .returned (v0_) ∧ Kd.R (Kd.int .u8) 5 w' w.heap.size (fun _ => True) v0_ r ∧ Below w.heap.size w w' := by
 have HB := Aside0.mk (Below.refl w.heap.size w)
 have H : (some (([(a0 / 16777216) % 256, (Go.bits .and .u32 (a0 / 65536) 255) % 256, (Go.bits .and .u32 (a0 / 256) 255) % 256, (Go.bits .and .u32 a0 255) % 256] : List Int))) = some r := h
 clear h
 obtain ⟨y328, hy328⟩ : ∃ y_ : List Int, y_ = (([(a0 / 16777216) % 256, (Go.bits .and .u32 (a0 / 65536) 255) % 256, (Go.bits .and .u32 (a0 / 256) 255) % 256, (Go.bits .and .u32 a0 255) % 256] : List Int)) := ⟨_, rfl⟩
 replace H : (some y328) = some r := by first | (rw [hy328]; with_reducible exact H) | (have H2_ := (Option.bind_some _ _).symm.trans H; rw [hy328]; with_reducible exact H2_) | (have H2_ := (Option.bind_some _ _).symm.trans H; with_reducible exact H2_) | with_reducible exact H | (rw [hy328]; exact H) | exact H
 have Ny328 := Aside0.mk hy328
 clear hy328
 obtain rfl := Option.some.inj H
 go_enter Tryd.func52, Tryd.ntmps52
 go_wp2_with (first | ((with_reducible refine gate_dst (N := 17) rfl ?_); refine Kd.R_lit (Kd.int .u8) _ 5 ?hg (N := 17) ?hd (xs := ([(a0 / 16777216) % 256, (Go.bits .and .u32 (a0 / 65536) 255) % 256, (Go.bits .and .u32 (a0 / 256) 255) % 256, (Go.bits .and .u32 a0 255) % 256] : List Int)) (inner := [.int .u8 ((a0 / 16777216) % 256), .int .u8 ((Go.bits .and .u32 (a0 / 65536) 255) % 256), .int .u8 ((Go.bits .and .u32 (a0 / 256) 255) % 256), .int .u8 ((Go.bits .and .u32 a0 255) % 256)]) (ok := fun _ => True) (okp := fun _ => True) ?hr ?hp (fun _ hk => hk) trivial (Below.refl _ _) (Nat.le_refl _) (by simp) ?_; (case hd => rfl); (case hg => rfl); (case hr => first | (go_simp; done) | (go_simp; rfl)); (case hp => exact (Reps.one (show Kd.M (Kd.int .u8) _ _ _ ((a0 / 16777216) % 256) [.int .u8 ((a0 / 16777216) % 256)] from rfl) (Reps.one (show Kd.M (Kd.int .u8) _ _ _ ((Go.bits .and .u32 (a0 / 65536) 255) % 256) [.int .u8 ((Go.bits .and .u32 (a0 / 65536) 255) % 256)] from rfl) (Reps.one (show Kd.M (Kd.int .u8) _ _ _ ((Go.bits .and .u32 (a0 / 256) 255) % 256) [.int .u8 ((Go.bits .and .u32 (a0 / 256) 255) % 256)] from rfl) (Reps.one (show Kd.M (Kd.int .u8) _ _ _ ((Go.bits .and .u32 a0 255) % 256) [.int .u8 ((Go.bits .and .u32 a0 255) % 256)] from rfl) (Reps.none _ _)))))); intro v329 w2 ho3 hb hg_ hnew_; clear hg_ hnew_; (first | rw [← Ny328.out] at ho3 | (simp only [Int.reduceToNat] at ho3; rw [← Ny328.out] at ho3)); have n0_ := Aside0.mk (Kd.R_lower ho3 (below_size pB)); have n1_ := Aside0.mk (below_step pB hb); clear HB; have HO330 := n0_; have HB := n1_; clear n0_ n1_; clear hb ho3))
 go_ret
 exact ⟨_, pE, by (with_reducible repeat (first | apply Kd.R_alloc | apply Kd.R_drewN | apply Kd.R_drew)); exact HO330.out, pB⟩
mutual
def minstrelref06_Sum.l0 : Nat → List Int → Int → Int → Option (Int)
 | 0, _, _, _ => none
 | k + 1, x0, x3, x4 => if x4 < (x0.length : Int) then (minstrelref06_Sum.l1 k x0 x3 x4 0) else (some (Go.bits .xor .u32 4294967295 x3))
def minstrelref06_Sum.l1 : Nat → List Int → Int → Int → Int → Option (Int)
 | 0, _, _, _, _ => none
 | k + 1, x0, x3, x4, x5 => if x5 < 8 then (if 0 ≤ x4 then (if x4 < (x0.length : Int) then (if 0 ≤ (IntKind.u64.wrap (x5)) then (if (Go.bits .and .u32 x3 1) = ((Go.bits .and .u8 (shr .u8 (rd x0 x4) (IntKind.u64.wrap (x5))) 1) % 4294967296) then (minstrelref06_Sum.l1 k x0 (x3 / 2) x4 (wrap64 (x5 + 1))) else (minstrelref06_Sum.l1 k x0 (Go.bits .xor .u32 (x3 / 2) 3988292384) x4 (wrap64 (x5 + 1)))) else (none)) else (none)) else (none)) else (minstrelref06_Sum.l0 k x0 x3 (wrap64 (x4 + 1)))
end
def minstrelref06_Sum.f (k : Nat) (l0 : List Int) : Option (Int) := minstrelref06_Sum.l0 k l0 4294967295 0
theorem minstrelref06_Sum.mono_l : ∀ k, (∀ y0 y1 y2, LeO (minstrelref06_Sum.l0 k y0 y1 y2) (minstrelref06_Sum.l0 (k + 1) y0 y1 y2)) ∧ (∀ y0 y1 y2 y3, LeO (minstrelref06_Sum.l1 k y0 y1 y2 y3) (minstrelref06_Sum.l1 (k + 1) y0 y1 y2 y3))
 | 0 => ⟨fun _ _ _ r h => by simp [minstrelref06_Sum.l0] at h, fun _ _ _ _ r h => by simp [minstrelref06_Sum.l1] at h⟩
 | k + 1 => by
  obtain ⟨ih0, ih1⟩ := minstrelref06_Sum.mono_l k
  refine ⟨?_, ?_⟩
  ·intro y0 y1 y2
   unfold minstrelref06_Sum.l0
   repeat' first
   | (with_reducible exact ih0 _ _ _)
   | (with_reducible exact ih1 _ _ _ _)
   | (with_reducible exact LeO.refl _)
   | (with_reducible exact LeO.none _)
   | (with_reducible refine LeO.ite ?_ ?_)
   | (with_reducible refine LeO.bind ?_ (fun _ => ?_))
   | exact ih0 _ _ _
   | exact ih1 _ _ _ _
   | exact LeO.none _
   | refine LeO.ite ?_ ?_
   | refine LeO.bind ?_ (fun _ => ?_)
  ·intro y0 y1 y2 y3
   unfold minstrelref06_Sum.l1
   repeat' first
   | (with_reducible exact ih0 _ _ _)
   | (with_reducible exact ih1 _ _ _ _)
   | (with_reducible exact LeO.refl _)
   | (with_reducible exact LeO.none _)
   | (with_reducible refine LeO.ite ?_ ?_)
   | (with_reducible refine LeO.bind ?_ (fun _ => ?_))
   | exact ih0 _ _ _
   | exact ih1 _ _ _ _
   | exact LeO.none _
   | refine LeO.ite ?_ ?_
   | refine LeO.bind ?_ (fun _ => ?_)
theorem minstrelref06_Sum.mono : ∀ a0 k, LeO (minstrelref06_Sum.f k a0) (minstrelref06_Sum.f (k + 1) a0) := by
 intro a0 k
 obtain ⟨ih0, ih1⟩ := minstrelref06_Sum.mono_l k
 unfold minstrelref06_Sum.f
 repeat' first
   | (with_reducible exact ih0 _ _ _)
   | (with_reducible exact ih1 _ _ _ _)
   | (with_reducible exact LeO.refl _)
   | (with_reducible exact LeO.none _)
   | (with_reducible refine LeO.ite ?_ ?_)
   | (with_reducible refine LeO.bind ?_ (fun _ => ?_))
   | exact ih0 _ _ _
   | exact ih1 _ _ _ _
   | exact LeO.none _
   | refine LeO.ite ?_ ?_
   | refine LeO.bind ?_ (fun _ => ?_)
set_option maxHeartbeats 8000000 in
set_option maxRecDepth 100000 in
theorem minstrelref06_Sum.calls (k : Nat) (A0 : Option Addr) (c0 : Nat) (l0 : List Int) (r : Int) (w : World) (hr0 : Kd.C (Kd.int .u8) w A0 l0.length l0) (hc0 : l0.length ≤ c0) (h : minstrelref06_Sum.f k l0 = some r) :
  Calls Tryd.prog 53 #[.slice A0 l0.length c0] w fun e w' => e = .returned (.int .u32 r) ∧ Drawn0 w w' := by
 have HR0 := Aside0.mk hr0
 have HC0 := Aside0.mk hc0
 clear hr0 hc0
 have H : (minstrelref06_Sum.l0 k l0 4294967295 0) = some r := h
 clear h
 have H' := Aside0.mk H
 clear H
 go_enter Tryd.func53, Tryd.ntmps53
 go_wp2
 go_loopg [3, 4] k (fun kq v3 v4 w' => ∃ (x3_1 : Int) (x4_1 : Int), v3 = .int .u32 x3_1 ∧ v4 = .int .i64 x4_1 ∧ Aside0 (minstrelref06_Sum.l0 kq l0 x3_1 x4_1 = some r) ∧ Aside0 (kq ≤ k) ∧ Drawn0 w w')
 case atStart => exact ⟨(4294967295), (0), (by first | rfl | (simp; done) | (simp [*]; done)), (by first | rfl | (simp; done) | (simp [*]; done)), H', ⟨Nat.le_refl _⟩, by repeat (first | exact Drawn0.refl _ | apply Drawn0.step)⟩
 case round =>
  clear H'
  obtain ⟨x3_1, x4_1, rfl, rfl, HA, HK1, ⟨m1, rfl⟩⟩ := hrel
  cases gk with
  | zero => exact absurd HA.out (by simp [minstrelref06_Sum.l0])
  | succ k1 =>
   have H := HA.out
   clear HA
   simp only [minstrelref06_Sum.l0] at H
   by_cases c2 : x4_1 < (l0.length : Int)
   ·rw [if_pos c2] at H
    have c2b0 : decide (x4_1 < (l0.length : Int)) = true := decide_eq_true c2
    clear c2
    have H' := Aside0.mk H
    clear H
    go_wp2
    go_loopg [3, 5] k1 (fun kq v3 v5 w' => ∃ (x3_2 : Int) (x5_2 : Int), v3 = .int .u32 x3_2 ∧ v5 = .int .i64 x5_2 ∧ Aside0 (minstrelref06_Sum.l1 kq l0 x3_2 x4_1 x5_2 = some r) ∧ Aside0 (kq ≤ k1) ∧ Drawn0 w w')
    case atStart => exact ⟨(x3_1), (0), (by first | rfl | (simp; done) | (simp [*]; done)), (by first | rfl | (simp; done) | (simp [*]; done)), H', ⟨Nat.le_refl _⟩, by repeat (first | exact Drawn0.refl _ | apply Drawn0.step)⟩
    case round =>
     clear H'
     try clear c2
     try clear c2b0
     try clear p2
     obtain ⟨x3_2, x5_2, rfl, rfl, HA, HK2, ⟨m2, rfl⟩⟩ := hrel
     cases gk with
     | zero => exact absurd HA.out (by simp [minstrelref06_Sum.l1])
     | succ k2 =>
      have H := HA.out
      clear HA
      simp only [minstrelref06_Sum.l1] at H
      by_cases c3 : x5_2 < 8
      ·rw [if_pos c3] at H
       have c3b0 : decide (x5_2 < 8) = true := decide_eq_true c3
       clear c3
       by_cases c4 : 0 ≤ x4_1
       ·rw [if_pos c4] at H
        have c4b0 : decide (0 ≤ x4_1) = true := decide_eq_true c4
        clear c4
        by_cases c5 : x4_1 < (l0.length : Int)
        ·rw [if_pos c5] at H
         have c5b0 : decide (x4_1 < (l0.length : Int)) = true := decide_eq_true c5
         clear c5
         obtain ⟨ji6, hji6⟩ : ∃ j_ : Int, (IntKind.u64.wrap (x5_2)) = j_ := ⟨_, rfl⟩
         replace H : (if 0 ≤ (ji6) then (if (Go.bits .and .u32 x3_2 1) = ((Go.bits .and .u8 (shr .u8 (rd l0 x4_1) (ji6)) 1) % 4294967296) then (minstrelref06_Sum.l1 k2 l0 (x3_2 / 2) x4_1 (wrap64 (x5_2 + 1))) else (minstrelref06_Sum.l1 k2 l0 (Go.bits .xor .u32 (x3_2 / 2) 3988292384) x4_1 (wrap64 (x5_2 + 1)))) else (none)) = some r := by first | (rw [hji6] at H; exact H) | (simp only [hji6] at H ⊢; exact H)
         by_cases c7 : 0 ≤ (ji6)
         ·rw [if_pos c7] at H
          have c7b0 := eq_true c7
          have c7b1 : decide (0 ≤ (ji6)) = true := decide_eq_true c7
          clear c7
          obtain ⟨ji8, hji8⟩ : ∃ j_ : Int, (shr .u8 (rd l0 x4_1) (ji6)) = j_ := ⟨_, rfl⟩
          replace H : (if (Go.bits .and .u32 x3_2 1) = ((Go.bits .and .u8 (ji8) 1) % 4294967296) then (minstrelref06_Sum.l1 k2 l0 (x3_2 / 2) x4_1 (wrap64 (x5_2 + 1))) else (minstrelref06_Sum.l1 k2 l0 (Go.bits .xor .u32 (x3_2 / 2) 3988292384) x4_1 (wrap64 (x5_2 + 1)))) = some r := by first | (rw [hji8] at H; exact H) | (simp only [hji8] at H ⊢; exact H)
          have hji8_ : ((rd l0 x4_1) / 2 ^ min (ji6).toNat 8) = ji8 := hji8
          have hji8z : (ji6) ≤ 8 → ((rd l0 x4_1) / 2 ^ (ji6).toNat) = ji8 := shr_small hji8
          by_cases c9 : (Go.bits .and .u32 x3_2 1) = ((Go.bits .and .u8 (ji8) 1) % 4294967296)
          ·rw [if_pos c9] at H
           have c9b0 : ((Go.bits .and .u32 x3_2 1) == ((Go.bits .and .u8 (ji8) 1) % 4294967296)) = true := beq_iff_eq.mpr c9
           have c9b1 : ((Go.bits .and .u32 x3_2 1) != ((Go.bits .and .u8 (ji8) 1) % 4294967296)) = false := bne_eq_false_iff_eq.mpr c9
           clear c9
           have H' := Aside0.mk H
           clear H
           have p331 : 0 ≤ (x4_1 : Int) := pD
           have q331 : x4_1 < (l0.length : Int) := pD
           obtain ⟨ad331, e331, hx331_0⟩ := Kd.at_int HR0.out x4_1 p331 q331
           cases e331
           replace p331 := eq_true p331
           replace q331 := eq_true q331
           go_wp2
           go_roundg k2
           case measure => have := HK1.out; have := HK2.out; omega
           case rel => exact ⟨(x3_2 / 2), (wrap64 (x5_2 + 1)), (by first | rfl | (simp; done) | (simp [*]; done)), (by first | rfl | (simp; done) | (simp [*]; done)), H', ⟨by have := HK1.out; have := HK2.out; omega⟩, by repeat (first | exact Drawn0.refl _ | apply Drawn0.step)⟩
          ·rw [if_neg c9] at H
           have c9b0 : ((Go.bits .and .u32 x3_2 1) == ((Go.bits .and .u8 (ji8) 1) % 4294967296)) = false := beq_eq_false_iff_ne.mpr c9
           have c9b1 : ((Go.bits .and .u32 x3_2 1) != ((Go.bits .and .u8 (ji8) 1) % 4294967296)) = true := bne_iff_ne.mpr c9
           have H' := Aside0.mk H
           clear H
           have p331 : 0 ≤ (x4_1 : Int) := pD
           have q331 : x4_1 < (l0.length : Int) := pD
           obtain ⟨ad331, e331, hx331_0⟩ := Kd.at_int HR0.out x4_1 p331 q331
           cases e331
           replace p331 := eq_true p331
           replace q331 := eq_true q331
           go_wp2
           go_roundg k2
           case measure => have := HK1.out; have := HK2.out; omega
           case rel => exact ⟨(Go.bits .xor .u32 (x3_2 / 2) 3988292384), (wrap64 (x5_2 + 1)), (by first | rfl | (simp; done) | (simp [*]; done)), (by first | rfl | (simp; done) | (simp [*]; done)), H', ⟨by have := HK1.out; have := HK2.out; omega⟩, by repeat (first | exact Drawn0.refl _ | apply Drawn0.step)⟩
         ·rw [if_neg c7] at H
          exact absurd H (by simp)
        ·rw [if_neg c5] at H
         exact absurd H (by simp)
       ·rw [if_neg c4] at H
        exact absurd H (by simp)
      ·rw [if_neg c3] at H
       have c3b0 : decide (x5_2 < 8) = false := decide_eq_false c3
       clear c3
       have H' := Aside0.mk H
       clear H
       go_wp2
       go_roundg k2
       case measure => have := HK1.out; have := HK2.out; omega
       case rel => exact ⟨(x3_2), (wrap64 (x4_1 + 1)), (by first | rfl | (simp; done) | (simp [*]; done)), (by first | rfl | (simp; done) | (simp [*]; done)), H', ⟨by have := HK1.out; have := HK2.out; omega⟩, by repeat (first | exact Drawn0.refl _ | apply Drawn0.step)⟩
   ·rw [if_neg c2] at H
    have c2b0 : decide (x4_1 < (l0.length : Int)) = false := decide_eq_false c2
    clear c2
    obtain rfl := Option.some.inj H
    go_wp2
    go_ret
    exact ⟨by first | rfl | (simp; done) | (simp [*]; done), by repeat (first | exact Drawn0.refl _ | apply Drawn0.step)⟩
def minstrelref06_Frame.f (k : Nat) (l0 : List Int) : Option (List Int) := (minstrelref06_Four.f (((l0.length : Int)) % 4294967296)).bind fun t332 => ((some (([] : List Int) : List Int)).bind fun y335 => (if y335.length + t332.length < 140737488355328 then ((some (y335 ++ t332 : List Int)).bind fun y338 => (if y338.length + l0.length < 140737488355328 then ((minstrelref06_Sum.f k (y338 ++ l0)).bind fun t344 => ((minstrelref06_Four.f t344).bind fun t345 => ((some (([] : List Int) : List Int)).bind fun y348 => (if y348.length + t332.length < 140737488355328 then ((some (y348 ++ t332 : List Int)).bind fun y351 => (if y351.length + t345.length < 140737488355328 then ((some (y351 ++ t345 : List Int)).bind fun y354 => (if y354.length + l0.length < 140737488355328 then (some (y354 ++ l0)) else (none))) else (none))) else (none))))) else (none))) else (none)))
theorem minstrelref06_Frame.mono : ∀ a0 k, LeO (minstrelref06_Frame.f k a0) (minstrelref06_Frame.f (k + 1) a0) := by
 intro a0 k
 unfold minstrelref06_Frame.f
 repeat' first
   | (with_reducible exact minstrelref06_Sum.mono _ _)
   | (with_reducible exact LeO.refl _)
   | (with_reducible exact LeO.none _)
   | (with_reducible refine LeO.ite ?_ ?_)
   | (with_reducible refine LeO.bind ?_ (fun _ => ?_))
   | exact minstrelref06_Sum.mono _ _
   | exact LeO.none _
   | refine LeO.ite ?_ ?_
   | refine LeO.bind ?_ (fun _ => ?_)
set_option maxHeartbeats 8000000 in
set_option maxRecDepth 100000 in
theorem minstrelref06_Frame.calls (k : Nat) (A0 : Option Addr) (c0 : Nat) (l0 : List Int) (r : List Int) (w : World) (hr0 : Kd.C (Kd.int .u8) w A0 l0.length l0) (hc0 : l0.length ≤ c0) (h : minstrelref06_Frame.f k l0 = some r) :
  Calls Tryd.prog 35 #[.slice A0 l0.length c0] w fun e w' => ∃ v0_ : Value, e = .returned (v0_) ∧ Kd.R (Kd.int .u8) 5 w' w.heap.size (fun _ => True) v0_ r ∧ Below w.heap.size w w' := by
 have HR0 := Aside0.mk hr0
 have HC0 := Aside0.mk hc0
 clear hr0 hc0
 have HB := Aside0.mk (Below.refl w.heap.size w)
 have H : ((minstrelref06_Four.f (((l0.length : Int)) % 4294967296)).bind fun t332 => ((some (([] : List Int) : List Int)).bind fun y335 => (if y335.length + t332.length < 140737488355328 then ((some (y335 ++ t332 : List Int)).bind fun y338 => (if y338.length + l0.length < 140737488355328 then ((minstrelref06_Sum.f k (y338 ++ l0)).bind fun t344 => ((minstrelref06_Four.f t344).bind fun t345 => ((some (([] : List Int) : List Int)).bind fun y348 => (if y348.length + t332.length < 140737488355328 then ((some (y348 ++ t332 : List Int)).bind fun y351 => (if y351.length + t345.length < 140737488355328 then ((some (y351 ++ t345 : List Int)).bind fun y354 => (if y354.length + l0.length < 140737488355328 then (some (y354 ++ l0)) else (none))) else (none))) else (none))))) else (none))) else (none)))) = some r := h
 clear h
 replace H := Option.bind_eq_some_iff.mp H
 obtain ⟨t332, A20, H⟩ := H
 replace H : ((some (([] : List Int) : List Int)).bind fun y335 => (if y335.length + t332.length < 140737488355328 then ((some (y335 ++ t332 : List Int)).bind fun y338 => (if y338.length + l0.length < 140737488355328 then ((minstrelref06_Sum.f k (y338 ++ l0)).bind fun t344 => ((minstrelref06_Four.f t344).bind fun t345 => ((some (([] : List Int) : List Int)).bind fun y348 => (if y348.length + t332.length < 140737488355328 then ((some (y348 ++ t332 : List Int)).bind fun y351 => (if y351.length + t345.length < 140737488355328 then ((some (y351 ++ t345 : List Int)).bind fun y354 => (if y354.length + l0.length < 140737488355328 then (some (y354 ++ l0)) else (none))) else (none))) else (none))))) else (none))) else (none))) = some r := H
 have A2 := Aside0.mk A20
 clear A20
 obtain ⟨y335, hy335⟩ : ∃ y_ : List Int, y_ = (([] : List Int)) := ⟨_, rfl⟩
 replace H : (if y335.length + t332.length < 140737488355328 then ((some (y335 ++ t332 : List Int)).bind fun y338 => (if y338.length + l0.length < 140737488355328 then ((minstrelref06_Sum.f k (y338 ++ l0)).bind fun t344 => ((minstrelref06_Four.f t344).bind fun t345 => ((some (([] : List Int) : List Int)).bind fun y348 => (if y348.length + t332.length < 140737488355328 then ((some (y348 ++ t332 : List Int)).bind fun y351 => (if y351.length + t345.length < 140737488355328 then ((some (y351 ++ t345 : List Int)).bind fun y354 => (if y354.length + l0.length < 140737488355328 then (some (y354 ++ l0)) else (none))) else (none))) else (none))))) else (none))) else (none)) = some r := by first | (rw [hy335]; with_reducible exact H) | (have H2_ := (Option.bind_some _ _).symm.trans H; rw [hy335]; with_reducible exact H2_) | (have H2_ := (Option.bind_some _ _).symm.trans H; with_reducible exact H2_) | with_reducible exact H | (rw [hy335]; exact H) | exact H
 have Ny335 := Aside0.mk hy335
 clear hy335
 by_cases c3 : y335.length + t332.length < 140737488355328
 ·rw [if_pos c3] at H
  have LMc3 := Aside0.mk c3
  clear c3
  obtain ⟨y338, hy338⟩ : ∃ y_ : List Int, y_ = (y335 ++ t332) := ⟨_, rfl⟩
  replace H : (if y338.length + l0.length < 140737488355328 then ((minstrelref06_Sum.f k (y338 ++ l0)).bind fun t344 => ((minstrelref06_Four.f t344).bind fun t345 => ((some (([] : List Int) : List Int)).bind fun y348 => (if y348.length + t332.length < 140737488355328 then ((some (y348 ++ t332 : List Int)).bind fun y351 => (if y351.length + t345.length < 140737488355328 then ((some (y351 ++ t345 : List Int)).bind fun y354 => (if y354.length + l0.length < 140737488355328 then (some (y354 ++ l0)) else (none))) else (none))) else (none))))) else (none)) = some r := by first | (rw [hy338]; with_reducible exact H) | (have H2_ := (Option.bind_some _ _).symm.trans H; rw [hy338]; with_reducible exact H2_) | (have H2_ := (Option.bind_some _ _).symm.trans H; with_reducible exact H2_) | with_reducible exact H | (rw [hy338]; exact H) | exact H
  have Ny338 := Aside0.mk hy338
  clear hy338
  by_cases c4 : y338.length + l0.length < 140737488355328
  ·rw [if_pos c4] at H
   have LMc4 := Aside0.mk c4
   clear c4
   obtain ⟨y341, hy341⟩ : ∃ y_ : List Int, y_ = (y338 ++ l0) := ⟨_, rfl⟩
   replace H : ((minstrelref06_Sum.f k y341).bind fun t344 => ((minstrelref06_Four.f t344).bind fun t345 => ((some (([] : List Int) : List Int)).bind fun y348 => (if y348.length + t332.length < 140737488355328 then ((some (y348 ++ t332 : List Int)).bind fun y351 => (if y351.length + t345.length < 140737488355328 then ((some (y351 ++ t345 : List Int)).bind fun y354 => (if y354.length + l0.length < 140737488355328 then (some (y354 ++ l0)) else (none))) else (none))) else (none))))) = some r := by first | (rw [hy341]; with_reducible exact H) | (have H2_ := (Option.bind_some _ _).symm.trans H; rw [hy341]; with_reducible exact H2_) | (have H2_ := (Option.bind_some _ _).symm.trans H; with_reducible exact H2_) | with_reducible exact H | (rw [hy341]; exact H) | exact H
   have Ny341 := Aside0.mk hy341
   clear hy341
   replace H := Option.bind_eq_some_iff.mp H
   obtain ⟨t344, A50, H⟩ := H
   replace H : ((minstrelref06_Four.f t344).bind fun t345 => ((some (([] : List Int) : List Int)).bind fun y348 => (if y348.length + t332.length < 140737488355328 then ((some (y348 ++ t332 : List Int)).bind fun y351 => (if y351.length + t345.length < 140737488355328 then ((some (y351 ++ t345 : List Int)).bind fun y354 => (if y354.length + l0.length < 140737488355328 then (some (y354 ++ l0)) else (none))) else (none))) else (none)))) = some r := H
   have A5 := Aside0.mk A50
   clear A50
   replace H := Option.bind_eq_some_iff.mp H
   obtain ⟨t345, A60, H⟩ := H
   replace H : ((some (([] : List Int) : List Int)).bind fun y348 => (if y348.length + t332.length < 140737488355328 then ((some (y348 ++ t332 : List Int)).bind fun y351 => (if y351.length + t345.length < 140737488355328 then ((some (y351 ++ t345 : List Int)).bind fun y354 => (if y354.length + l0.length < 140737488355328 then (some (y354 ++ l0)) else (none))) else (none))) else (none))) = some r := H
   have A6 := Aside0.mk A60
   clear A60
   obtain ⟨y348, hy348⟩ : ∃ y_ : List Int, y_ = (([] : List Int)) := ⟨_, rfl⟩
   replace H : (if y348.length + t332.length < 140737488355328 then ((some (y348 ++ t332 : List Int)).bind fun y351 => (if y351.length + t345.length < 140737488355328 then ((some (y351 ++ t345 : List Int)).bind fun y354 => (if y354.length + l0.length < 140737488355328 then (some (y354 ++ l0)) else (none))) else (none))) else (none)) = some r := by first | (rw [hy348]; with_reducible exact H) | (have H2_ := (Option.bind_some _ _).symm.trans H; rw [hy348]; with_reducible exact H2_) | (have H2_ := (Option.bind_some _ _).symm.trans H; with_reducible exact H2_) | with_reducible exact H | (rw [hy348]; exact H) | exact H
   have Ny348 := Aside0.mk hy348
   clear hy348
   by_cases c7 : y348.length + t332.length < 140737488355328
   ·rw [if_pos c7] at H
    have LMc7 := Aside0.mk c7
    clear c7
    obtain ⟨y351, hy351⟩ : ∃ y_ : List Int, y_ = (y348 ++ t332) := ⟨_, rfl⟩
    replace H : (if y351.length + t345.length < 140737488355328 then ((some (y351 ++ t345 : List Int)).bind fun y354 => (if y354.length + l0.length < 140737488355328 then (some (y354 ++ l0)) else (none))) else (none)) = some r := by first | (rw [hy351]; with_reducible exact H) | (have H2_ := (Option.bind_some _ _).symm.trans H; rw [hy351]; with_reducible exact H2_) | (have H2_ := (Option.bind_some _ _).symm.trans H; with_reducible exact H2_) | with_reducible exact H | (rw [hy351]; exact H) | exact H
    have Ny351 := Aside0.mk hy351
    clear hy351
    by_cases c8 : y351.length + t345.length < 140737488355328
    ·rw [if_pos c8] at H
     have LMc8 := Aside0.mk c8
     clear c8
     obtain ⟨y354, hy354⟩ : ∃ y_ : List Int, y_ = (y351 ++ t345) := ⟨_, rfl⟩
     replace H : (if y354.length + l0.length < 140737488355328 then (some (y354 ++ l0)) else (none)) = some r := by first | (rw [hy354]; with_reducible exact H) | (have H2_ := (Option.bind_some _ _).symm.trans H; rw [hy354]; with_reducible exact H2_) | (have H2_ := (Option.bind_some _ _).symm.trans H; with_reducible exact H2_) | with_reducible exact H | (rw [hy354]; exact H) | exact H
     have Ny354 := Aside0.mk hy354
     clear hy354
     by_cases c9 : y354.length + l0.length < 140737488355328
     ·rw [if_pos c9] at H
      have LMc9 := Aside0.mk c9
      clear c9
      obtain ⟨y357, hy357⟩ : ∃ y_ : List Int, y_ = (y354 ++ l0) := ⟨_, rfl⟩
      replace H : (some y357) = some r := by first | (rw [hy357]; with_reducible exact H) | (have H2_ := (Option.bind_some _ _).symm.trans H; rw [hy357]; with_reducible exact H2_) | (have H2_ := (Option.bind_some _ _).symm.trans H; with_reducible exact H2_) | with_reducible exact H | (rw [hy357]; exact H) | exact H
      have Ny357 := Aside0.mk hy357
      clear hy357
      obtain rfl := Option.some.inj H
      go_enter Tryd.func35, Tryd.ntmps35
      go_wp2_with (first | ((with_reducible refine gate_callee (f := 52) rfl ?_); refine goesL_ (some 8) rfl rfl Tryd.func52 (by kernel_rfl) rfl #[.int .u32 (((l0.length : Int)) % 4294967296)] rfl pM ?_; (with_reducible refine (minstrelref06_Four.calls (((l0.length : Int)) % 4294967296) t332 _ A2.out).mono ?_); rintro e w10 ⟨v333, rfl, ho0, hb⟩; refine ⟨_, rfl, ?_⟩; have n0_ := Aside0.mk (Kd.R_lower ho0 (below_size pB)); have n1_ := Aside0.mk (below_step pB hb); clear HB; have HO334 := n0_; have HB := n1_; clear n0_ n1_; (try clear hb); (try clear hb2); (try clear hk); (try clear hi); (try clear ho0)) | ((with_reducible refine gate_dst (N := 9) rfl ?_); refine Kd.R_lit (Kd.int .u8) _ 5 ?hg (N := 9) ?hd (xs := ([] : List Int)) (inner := []) (ok := fun _ => True) (okp := fun _ => True) ?hr ?hp (fun _ hk => hk) trivial (Below.refl _ _) (Nat.le_refl _) (by simp) ?_; (case hd => rfl); (case hg => rfl); (case hr => first | (go_simp; done) | (go_simp; rfl)); (case hp => exact (Reps.none _ _)); intro v336 w11 ho12 hb hg_ hnew_; clear hg_ hnew_; (first | rw [← Ny335.out] at ho12 | (simp only [Int.reduceToNat] at ho12; rw [← Ny335.out] at ho12)); have n0_ := Aside0.mk (Kd.R_elder' (pR HO334.out) (Kd.R_base ho12) hb); have n1_ := Aside0.mk (Kd.R_lower (Kd.R_new' ho12 (Kd.R_lt (pR HO334.out))) (below_size pB)); have n2_ := Aside0.mk (below_step pB hb); clear HO334; clear HB; have HO334 := n0_; have HO337 := n1_; have HB := n2_; clear n0_ n1_ n2_; clear hb ho12; obtain ⟨Ao14, co14, eo14⟩ := Kd.R_slice HO334.out; subst eo14) | ((with_reducible refine gate_builtin (b := .append) (xs := #[.tmp 9, .tmp 10]) rfl ?_); at_builtin; refine Kd.R_append_rows (Kd.int .u8) (w0 := w) w.heap.size rfl (.tmp 9) (.tmp 10) 31 5 (.int .u8 0) 1 rfl Tryd.underlying31 info5 rfl (by decide) (by omega) v336 y335 t332 _ _ _ (fun k_ => some k_ ≠ (.slice Ao14 t332.length co14 : Value).ownBlock) (fun _ => False) rfl rfl ?aO ?aR (fun _ _ h => h) (fun _ h => h.elim) ?aF ?aB ?aS ?aL ?_; (case aR => repeat (first | exact (Kd.R_reads' HO334.out).2.2 | (with_reducible refine Kd.C_alloc ?_ _) | (with_reducible refine Kd.C_drewN ?_ _) | (with_reducible refine Kd.C_drew ?_))); (case aB => exact pB); (case aF => exact (fun k_ hk => Kd.fresh' (Kd.R_lt (pR HO334.out)) k_ hk)); (case aO => exact (by (with_reducible repeat (first | apply Kd.R_alloc | apply Kd.R_drewN | apply Kd.R_drew)); exact Kd.R_mono HO337.out (fun _ hk => hk.2))); (case aS => exact (below_size pB)); (case aL => have := LMc3.out; omega); intro v339 w13 ho hb hg hat; rw [← Ny338.out] at ho; have n0_ := Aside0.mk (Kd.R_after (ok := (fun _ => True)) (pR HO334.out) hg hat); have n1_ := Aside0.mk (hb); have n2_ := Aside0.mk (ho); clear HO334; clear HB; clear HO337; have HO334 := n0_; have HB := n1_; have HO340 := n2_; clear n0_ n1_ n2_; clear ho hb hg hat) | ((with_reducible refine gate_builtin (b := .append) (xs := #[.tmp 11, .tmp 12]) rfl ?_); at_builtin; refine Kd.R_append_rows (Kd.int .u8) (w0 := w) w.heap.size rfl (.tmp 11) (.tmp 12) 31 5 (.int .u8 0) 1 rfl Tryd.underlying31 info5 rfl (by decide) (by omega) v339 y338 l0 _ _ _ (fun k_ => some k_ ≠ (.slice Ao14 t332.length co14 : Value).ownBlock) (fun _ => False) rfl rfl ?aO ?aR (fun _ _ h => h) (fun _ h => h.elim) ?aF ?aB ?aS ?aL ?_; (case aR => exact pC (Kd.C_below HR0.out HB.out)); (case aB => exact pB); (case aF => exact (fun k_ hk => Kd.fresh' (Kd.R_lt (pR HO334.out)) k_ hk)); (case aO => exact (pR HO340.out)); (case aS => exact (below_size pB)); (case aL => have := LMc4.out; omega); intro v342 w15 ho hb hg hat; rw [← Ny341.out] at ho; have n0_ := Aside0.mk (Kd.R_after (ok := (fun _ => True)) (pR HO334.out) hg hat); have n1_ := Aside0.mk (hb); have n2_ := Aside0.mk (ho); clear HO334; clear HB; clear HO340; have HO334 := n0_; have HB := n1_; have HO343 := n2_; clear n0_ n1_ n2_; clear ho hb hg hat; obtain ⟨Ao16, co16, eo16⟩ := Kd.R_slice HO343.out; subst eo16) | ((with_reducible refine gate_callee (f := 53) rfl ?_); refine goesL_ (some 14) rfl rfl Tryd.func53 (by kernel_rfl) rfl #[.slice Ao16 y341.length co16] rfl pM ?_; (with_reducible refine (minstrelref06_Sum.calls k _ _ y341 t344 _ ?side1 ?side2 A5.out).mono ?_); (case side1 => repeat (first | exact (Kd.R_reads' HO343.out).2.2 | (with_reducible refine Kd.C_alloc ?_ _) | (with_reducible refine Kd.C_drewN ?_ _) | (with_reducible refine Kd.C_drew ?_))); (case side2 => exact (Kd.R_reads' HO343.out).2.1); rintro e w' ⟨rfl, ⟨nd, rfl⟩⟩; refine ⟨_, rfl, ?_⟩) | ((with_reducible refine gate_callee (f := 52) rfl ?_); refine goesL_ (some 15) rfl rfl Tryd.func52 (by kernel_rfl) rfl #[.int .u32 t344] rfl pM ?_; (with_reducible refine (minstrelref06_Four.calls t344 t345 _ A6.out).mono ?_); rintro e w17 ⟨v346, rfl, ho0, hb⟩; refine ⟨_, rfl, ?_⟩; have n0_ := Aside0.mk (Kd.R_elder' (pR HO334.out) (Kd.R_base ho0) hb); have n1_ := Aside0.mk (Kd.R_elder' (pR HO343.out) (Kd.R_base ho0) hb); have n2_ := Aside0.mk (Kd.R_lower (Kd.R_new' (Kd.R_new' ho0 (Kd.R_lt (pR HO334.out))) (Kd.R_lt (pR HO343.out))) (below_size pB)); have n3_ := Aside0.mk (below_step pB hb); clear HO334; clear HO343; clear HB; have HO334 := n0_; have HO343 := n1_; have HO347 := n2_; have HB := n3_; clear n0_ n1_ n2_ n3_; (try clear hb); (try clear hb2); (try clear hk); (try clear hi); (try clear ho0)) | ((with_reducible refine gate_dst (N := 16) rfl ?_); refine Kd.R_lit (Kd.int .u8) _ 5 ?hg (N := 16) ?hd (xs := ([] : List Int)) (inner := []) (ok := fun _ => True) (okp := fun _ => True) ?hr ?hp (fun _ hk => hk) trivial (Below.refl _ _) (Nat.le_refl _) (by simp) ?_; (case hd => rfl); (case hg => rfl); (case hr => first | (go_simp; done) | (go_simp; rfl)); (case hp => exact (Reps.none _ _)); intro v349 w18 ho19 hb hg_ hnew_; clear hg_ hnew_; (first | rw [← Ny348.out] at ho19 | (simp only [Int.reduceToNat] at ho19; rw [← Ny348.out] at ho19)); have n0_ := Aside0.mk (Kd.R_elder' (pR HO334.out) (Kd.R_base ho19) hb); have n1_ := Aside0.mk (Kd.R_elder' (pR HO343.out) (Kd.R_base ho19) hb); have n2_ := Aside0.mk (Kd.R_elder' (pR HO347.out) (Kd.R_base ho19) hb); have n3_ := Aside0.mk (Kd.R_lower (Kd.R_new' (Kd.R_new' (Kd.R_new' ho19 (Kd.R_lt (pR HO334.out))) (Kd.R_lt (pR HO343.out))) (Kd.R_lt (pR HO347.out))) (below_size pB)); have n4_ := Aside0.mk (below_step pB hb); clear HO334; clear HO343; clear HO347; clear HB; have HO334 := n0_; have HO343 := n1_; have HO347 := n2_; have HO350 := n3_; have HB := n4_; clear n0_ n1_ n2_ n3_ n4_; clear hb ho19) | ((with_reducible refine gate_builtin (b := .append) (xs := #[.tmp 16, .tmp 17]) rfl ?_); at_builtin; refine Kd.R_append_rows (Kd.int .u8) (w0 := w) w.heap.size rfl (.tmp 16) (.tmp 17) 31 5 (.int .u8 0) 1 rfl Tryd.underlying31 info5 rfl (by decide) (by omega) v349 y348 t332 _ _ _ (fun k_ => some k_ ≠ (.slice Ao14 t332.length co14 : Value).ownBlock ∧ some k_ ≠ (.slice Ao16 y341.length co16 : Value).ownBlock ∧ some k_ ≠ (v346 : Value).ownBlock) (fun _ => False) rfl rfl ?aO ?aR (fun _ _ h => h) (fun _ h => h.elim) ?aF ?aB ?aS ?aL ?_; (case aR => repeat (first | exact (Kd.R_reads' HO334.out).2.2 | (with_reducible refine Kd.C_alloc ?_ _) | (with_reducible refine Kd.C_drewN ?_ _) | (with_reducible refine Kd.C_drew ?_))); (case aB => exact pB); (case aF => exact (fun k_ hk => ⟨Kd.fresh' (Kd.R_lt (pR HO334.out)) k_ hk, Kd.fresh' (Kd.R_lt (pR HO343.out)) k_ hk, Kd.fresh' (Kd.R_lt (pR HO347.out)) k_ hk⟩)); (case aO => exact (by (with_reducible repeat (first | apply Kd.R_alloc | apply Kd.R_drewN | apply Kd.R_drew)); exact Kd.R_mono HO350.out (fun _ hk => ⟨hk.1.1.2, ⟨hk.1.2, hk.2⟩⟩))); (case aS => exact (below_size pB)); (case aL => have := LMc7.out; omega); intro v352 w20 ho hb hg hat; rw [← Ny351.out] at ho; have n0_ := Aside0.mk (Kd.R_after (ok := (fun k_ => some k_ ≠ (.slice Ao16 y341.length co16 : Value).ownBlock ∧ some k_ ≠ (v346 : Value).ownBlock)) (by (with_reducible repeat (first | apply Kd.R_alloc | apply Kd.R_drewN | apply Kd.R_drew)); exact Kd.R_mono HO334.out (fun _ hk => ⟨⟨hk.1.1.2, hk.1.2⟩, hk.2⟩)) hg hat); have n1_ := Aside0.mk (Kd.R_after (ok := (fun k_ => some k_ ≠ (.slice Ao14 t332.length co14 : Value).ownBlock ∧ some k_ ≠ (v346 : Value).ownBlock)) (pR HO343.out) hg hat); have n2_ := Aside0.mk (Kd.R_after (ok := (fun k_ => some k_ ≠ (.slice Ao14 t332.length co14 : Value).ownBlock ∧ some k_ ≠ (.slice Ao16 y341.length co16 : Value).ownBlock)) (by (with_reducible repeat (first | apply Kd.R_alloc | apply Kd.R_drewN | apply Kd.R_drew)); exact Kd.R_mono HO347.out (fun _ hk => ⟨⟨hk.1.1.2, hk.1.2⟩, hk.2⟩)) hg hat); have n3_ := Aside0.mk (hb); have n4_ := Aside0.mk (ho); clear HO334; clear HO343; clear HO347; clear HB; clear HO350; have HO334 := n0_; have HO343 := n1_; have HO347 := n2_; have HB := n3_; have HO353 := n4_; clear n0_ n1_ n2_ n3_ n4_; clear ho hb hg hat; obtain ⟨Ao22, co22, eo22⟩ := Kd.R_slice HO347.out; subst eo22) | ((with_reducible refine gate_builtin (b := .append) (xs := #[.tmp 18, .tmp 19]) rfl ?_); at_builtin; refine Kd.R_append_rows (Kd.int .u8) (w0 := w) w.heap.size rfl (.tmp 18) (.tmp 19) 31 5 (.int .u8 0) 1 rfl Tryd.underlying31 info5 rfl (by decide) (by omega) v352 y351 t345 _ _ _ (fun k_ => some k_ ≠ (.slice Ao14 t332.length co14 : Value).ownBlock ∧ some k_ ≠ (.slice Ao16 y341.length co16 : Value).ownBlock ∧ some k_ ≠ (.slice Ao22 t345.length co22 : Value).ownBlock) (fun _ => False) rfl rfl ?aO ?aR (fun _ _ h => h) (fun _ h => h.elim) ?aF ?aB ?aS ?aL ?_; (case aR => repeat (first | exact (Kd.R_reads' HO347.out).2.2 | (with_reducible refine Kd.C_alloc ?_ _) | (with_reducible refine Kd.C_drewN ?_ _) | (with_reducible refine Kd.C_drew ?_))); (case aB => exact pB); (case aF => exact (fun k_ hk => ⟨Kd.fresh' (Kd.R_lt (pR HO334.out)) k_ hk, Kd.fresh' (Kd.R_lt (pR HO343.out)) k_ hk, Kd.fresh' (Kd.R_lt (pR HO347.out)) k_ hk⟩)); (case aO => exact (pR HO353.out)); (case aS => exact (below_size pB)); (case aL => have := LMc8.out; omega); intro v355 w21 ho hb hg hat; rw [← Ny354.out] at ho; have n0_ := Aside0.mk (Kd.R_after (ok := (fun k_ => some k_ ≠ (.slice Ao16 y341.length co16 : Value).ownBlock ∧ some k_ ≠ (.slice Ao22 t345.length co22 : Value).ownBlock)) (pR HO334.out) hg hat); have n1_ := Aside0.mk (Kd.R_after (ok := (fun k_ => some k_ ≠ (.slice Ao14 t332.length co14 : Value).ownBlock ∧ some k_ ≠ (.slice Ao22 t345.length co22 : Value).ownBlock)) (pR HO343.out) hg hat); have n2_ := Aside0.mk (Kd.R_after (ok := (fun k_ => some k_ ≠ (.slice Ao14 t332.length co14 : Value).ownBlock ∧ some k_ ≠ (.slice Ao16 y341.length co16 : Value).ownBlock)) (pR HO347.out) hg hat); have n3_ := Aside0.mk (hb); have n4_ := Aside0.mk (ho); clear HO334; clear HO343; clear HO347; clear HB; clear HO353; have HO334 := n0_; have HO343 := n1_; have HO347 := n2_; have HB := n3_; have HO356 := n4_; clear n0_ n1_ n2_ n3_ n4_; clear ho hb hg hat) | ((with_reducible refine gate_builtin (b := .append) (xs := #[.tmp 20, .tmp 21]) rfl ?_); at_builtin; refine Kd.R_append_rows (Kd.int .u8) (w0 := w) w.heap.size rfl (.tmp 20) (.tmp 21) 31 5 (.int .u8 0) 1 rfl Tryd.underlying31 info5 rfl (by decide) (by omega) v355 y354 l0 _ _ _ (fun k_ => some k_ ≠ (.slice Ao14 t332.length co14 : Value).ownBlock ∧ some k_ ≠ (.slice Ao16 y341.length co16 : Value).ownBlock ∧ some k_ ≠ (.slice Ao22 t345.length co22 : Value).ownBlock) (fun _ => False) rfl rfl ?aO ?aR (fun _ _ h => h) (fun _ h => h.elim) ?aF ?aB ?aS ?aL ?_; (case aR => exact pC (Kd.C_below HR0.out HB.out)); (case aB => exact pB); (case aF => exact (fun k_ hk => ⟨Kd.fresh' (Kd.R_lt (pR HO334.out)) k_ hk, Kd.fresh' (Kd.R_lt (pR HO343.out)) k_ hk, Kd.fresh' (Kd.R_lt (pR HO347.out)) k_ hk⟩)); (case aO => exact (pR HO356.out)); (case aS => exact (below_size pB)); (case aL => have := LMc9.out; omega); intro v358 w23 ho hb hg hat; rw [← Ny357.out] at ho; have n0_ := Aside0.mk (Kd.R_after (ok := (fun k_ => some k_ ≠ (.slice Ao16 y341.length co16 : Value).ownBlock ∧ some k_ ≠ (.slice Ao22 t345.length co22 : Value).ownBlock)) (pR HO334.out) hg hat); have n1_ := Aside0.mk (Kd.R_after (ok := (fun k_ => some k_ ≠ (.slice Ao14 t332.length co14 : Value).ownBlock ∧ some k_ ≠ (.slice Ao22 t345.length co22 : Value).ownBlock)) (pR HO343.out) hg hat); have n2_ := Aside0.mk (Kd.R_after (ok := (fun k_ => some k_ ≠ (.slice Ao14 t332.length co14 : Value).ownBlock ∧ some k_ ≠ (.slice Ao16 y341.length co16 : Value).ownBlock)) (pR HO347.out) hg hat); have n3_ := Aside0.mk (hb); have n4_ := Aside0.mk (ho); clear HO334; clear HO343; clear HO347; clear HB; clear HO356; have HO334 := n0_; have HO343 := n1_; have HO347 := n2_; have HB := n3_; have HO359 := n4_; clear n0_ n1_ n2_ n3_ n4_; clear ho hb hg hat))
      go_ret
      exact ⟨_, pE, by (with_reducible repeat (first | apply Kd.R_alloc | apply Kd.R_drewN | apply Kd.R_drew)); exact Kd.R_mono HO359.out (fun _ hk => trivial), pB⟩
     ·rw [if_neg c9] at H
      exact absurd H (by simp)
    ·rw [if_neg c8] at H
     exact absurd H (by simp)
   ·rw [if_neg c7] at H
    exact absurd H (by simp)
  ·rw [if_neg c4] at H
   exact absurd H (by simp)
 ·rw [if_neg c3] at H
  exact absurd H (by simp)
end Go.Proofs.YtlkaffbgekbcfaaDoor.Pr
end
