/- A part of the proof of the law that RowDecNoughts shows: lemmas, and contracts of the calls that it reaches. -/
import Derived.Test.YtflcanpajgpghaaDoorProg
import Derived.Below
import Derived.Deep.Draws
import Derived.Deep.AppendLies
import Derived.Maps.AppendAt
import Derived.OwnWalk
import Derived.Laws.BytesArg
import Derived.Laws.MakeOwn
import Derived.Laws.OwnMore
import Derived.Deep.OwnRows
import Derived.Tactics
import Derived.Lib.ConvBytes
import Derived.Laws.Slices
import Derived.WalkKit
import Derived.KernelRfl
import Derived.RowKit3
import Derived.Deep.LoopGhost
import Derived.Deep.QuietTactic
import Derived.BigQuiet
import Derived.WideLaws
import Derived.Deep.DeepCutAuto
import Derived.Deep.CutBlock
import Derived.Deep.RegionHeld3
import Derived.Laws.Rows
import Derived.Lib.AppendStr
import Derived.ArgAppend
import Derived.Laws.IdiomCopy
import Derived.OrdersHeld
import Derived.Laws.BitsLemmas
import Derived.RowKit
import Derived.Test.YtflcanpajgpghaaDoorZDN0
import Derived.Test.YtflcanpajgpghaaDoorZDN1
import Derived.Test.YtflcanpajgpghaaDoorZDN4
set_option linter.unusedVariables false
set_option linter.unusedSimpArgs false
section
namespace Go.Proofs.YtflcanpajgpghaaDoor.Pr
open Go.RowKit Go.Proofs.YtflcanpajgpghaaDoorW.PrintWords Go.Proofs.YtflcanpajgpghaaDoorW.PrintLast Go.Proofs.YtflcanpajgpghaaDoorW.PrintMore
attribute [local go_sem] max2_int min2_int max_two min_two max_three min_three max_four min_four
def r5_Whole.l0 : Nat → ByteArray → List Int → Int → Option (List Int)
 | 0, _, _, _ => none
 | k + 1, x0, x3, x4 => if x4 < (x0.size : Int) then ((r1_Product.f k x3 (([10] : List Int))).bind fun t463 => (if 0 ≤ x4 then ((r1_Sum.f k t463 (([((bt x0 x4) - 48) % 256] : List Int))).bind fun t469 => (r5_Whole.l0 k x0 t469 (wrap64 (x4 + 1)))) else (none))) else (some x3)
def r5_Whole.f (k : Nat) (a0 : ByteArray) : Option (List Int) := r5_Whole.l0 k a0 (([] : List Int)) 0
def r5_Whole.T5 : Bool × List (List Nat × List Nat) := (true, [([], []), ([], []), ([0, 1], [0, 1]), ([], []), ([], []), ([3, 4], [3, 4]), ([5], [5]), ([6], [6]), ([7], [7]), ([2, 8, 2], [2, 8]), ([9, 9, 0, 1, 2, 3, 4, 5, 6, 7, 8, 9], [0, 9])])
def r5_Whole.B5 : List Nat := [0, 0, 3, 0, 0, 24, 56, 120, 248, 511, 1023]
theorem r5_Whole.tab5 : rtab .any (opsOf Tryd.f20 5) = r5_Whole.T5 := by kernel_rfl
theorem r5_Whole.bits5 : waitsOk r5_Whole.T5.2 r5_Whole.B5 = true := by kernel_rfl
set_option maxHeartbeats 8000000 in
set_option maxRecDepth 100000 in
theorem r5_Whole.calls (k : Nat) (a0 : ByteArray) (r : List Int) (w : World) (h : r5_Whole.f k a0 = some r) :
  Calls Tryd.prog 20 #[.string a0] w fun e w' => ∃ v0_ : Value, e = .returned (v0_) ∧ Kd.R (Kd.int .u64) 22 w' w.heap.size (fun _ => True) v0_ r ∧ Below w.heap.size w w' := by
 have HB := am (Below.refl w.heap.size w)
 have H : (r5_Whole.l0 k a0 (([] : List Int)) 0) = some r := h
 clear h
 obtain ⟨y457, hy457⟩ : ∃ y_ : List Int, y_ = (([] : List Int)) := ⟨_, rfl⟩
 replace H : (r5_Whole.l0 k a0 y457 0) = some r := by first | (rw [hy457]; with_reducible exact H) | (have H2_ := (Option.bind_some _ _).symm.trans H; rw [hy457]; with_reducible exact H2_) | (have H2_ := (Option.bind_some _ _).symm.trans H; with_reducible exact H2_) | with_reducible exact H | (rw [hy457]; exact H) | exact H
 have Ny457 := am hy457
 clear hy457
 have H' := am H
 clear H
 go_enter Tryd.func20, Tryd.ntmps20
 go_wp2_with (first | ((with_reducible refine gate_dst (N := 5) rfl ?_); refine Kd.R_lit (Kd.int .u64) _ 22 ?hg (N := 5) ?hd (xs := ([] : List Int)) (inner := []) (ok := fun _ => True) (okp := fun _ => True) ?hr ?hp (fun _ hk => hk) trivial (Below.refl _ _) (Nat.le_refl _) (by simp) ?_; (case hd => rfl); (case hg => rfl); (case hr => first | (go_simp; done) | (go_simp; rfl)); (case hp => exact (Reps.none _ _)); intro v458 w2 ho3 hb hg_ hnew_; clear hg_ hnew_; (first | rw [← Ny457.out] at ho3 | (simp only [Int.reduceToNat] at ho3; rw [← Ny457.out] at ho3)); have HO459 := am (Kd.R_lower ho3 (below_size pB)); replace HB := am (below_step pB hb); clear hb ho3))
 go_loopg [3, 4] k (fun kq v3 v4 w' => ∃ (x3_1 : List Int) (x4_1 : Int), v4 = .int .i64 x4_1 ∧ Aside0 (r5_Whole.l0 kq a0 x3_1 x4_1 = some r) ∧ Aside0 (kq ≤ k) ∧ Aside0 (Kd.R (Kd.int .u64) 22 w' w.heap.size (fun _ => True) v3 x3_1) ∧ Aside0 (Below w.heap.size w w'))
 case atStart => exact ⟨(y457), (0), (by first | rfl | (simp; done) | (simp [*]; done)), H', ⟨Nat.le_refl _⟩, ⟨by (with_reducible repeat (first | apply Kd.R_alloc | apply Kd.R_drewN | apply Kd.R_drew)); exact HO459.out⟩, ⟨pB⟩⟩
 case round =>
  clear H'
  try clear c2
  try clear p2
  obtain ⟨x3_1, x4_1, rfl, HA, HK1, HO_3, HB⟩ := hrel
  cases gk with
  | zero => exact absurd HA.out (by simp [r5_Whole.l0])
  | succ k1 =>
   have H := HA.out
   clear HA
   simp only [r5_Whole.l0] at H
   by_cases c4 : x4_1 < (a0.size : Int)
   ·rw [if_pos c4] at H
    have c4b0 : decide (x4_1 < (a0.size : Int)) = true := decide_eq_true c4
    clear c4
    obtain ⟨y460, hy460⟩ : ∃ y_ : List Int, y_ = (([10] : List Int)) := ⟨_, rfl⟩
    replace H : ((r1_Product.f k1 x3_1 y460).bind fun t463 => (if 0 ≤ x4_1 then ((r1_Sum.f k1 t463 (([((bt a0 x4_1) - 48) % 256] : List Int))).bind fun t469 => (r5_Whole.l0 k1 a0 t469 (wrap64 (x4_1 + 1)))) else (none))) = some r := by first | (rw [hy460]; with_reducible exact H) | (have H2_ := (Option.bind_some _ _).symm.trans H; rw [hy460]; with_reducible exact H2_) | (have H2_ := (Option.bind_some _ _).symm.trans H; with_reducible exact H2_) | with_reducible exact H | (rw [hy460]; exact H) | exact H
    have Ny460 := am hy460
    clear hy460
    replace H := Option.bind_eq_some_iff.mp H
    obtain ⟨t463, A50, H⟩ := H
    try dsimp only at H
    have A5 := am A50
    clear A50
    by_cases c6 : 0 ≤ x4_1
    ·rw [if_pos c6] at H
     have c6b0 : decide (0 ≤ x4_1) = true := decide_eq_true c6
     clear c6
     obtain ⟨y466, hy466⟩ : ∃ y_ : List Int, y_ = (([((bt a0 x4_1) - 48) % 256] : List Int)) := ⟨_, rfl⟩
     replace H : ((r1_Sum.f k1 t463 y466).bind fun t469 => (r5_Whole.l0 k1 a0 t469 (wrap64 (x4_1 + 1)))) = some r := by first | (rw [hy466]; with_reducible exact H) | (have H2_ := (Option.bind_some _ _).symm.trans H; rw [hy466]; with_reducible exact H2_) | (have H2_ := (Option.bind_some _ _).symm.trans H; with_reducible exact H2_) | with_reducible exact H | (rw [hy466]; exact H) | exact H
     have Ny466 := am hy466
     clear hy466
     replace H := Option.bind_eq_some_iff.mp H
     obtain ⟨t469, A80, H⟩ := H
     try dsimp only at H
     have A8 := am A80
     clear A80
     have H' := am H
     clear H
     obtain ⟨Ao9, co9, eo9⟩ := Kd.R_slice HO_3.out
     subst eo9
     try go_wp2
     replace HO_3 := am (Kd.R_drew HO_3.out)
     replace HB := am (below_drew1 HB.out)
     have p7 : 0 ≤ (x4_1 : Int) := pD
     have q7 : x4_1 < (a0.size : Int) := pD
     have hx7 := bt_at a0 x4_1
     replace p7 := eq_true p7
     replace q7 := eq_true q7
     refine start_ (n := 11) (S := fun w' => True) (ds := []) (bm 11 0) (by kernel_rfl) rfl rfl trivial (fun hHeld => ?_); refine with_tabW r5_Whole.tab5 r5_Whole.bits5 (fun HT_ HW_ => ?_)
     generalize wr.drew = w10 at HO_3 HB hHeld ⊢
     refine pure_ (i := 0) (N := some 12) (v := ?_) (a' := ?_) (bm 11 1) rfl rfl (any_of HT_.out (by kernel_rfl)) (fun _ _ _ h => h) (Or.inl ⟨by kernel_rfl, ?_⟩) ?_ ?_
     rotate_left
     ·intro w'
      go_simp
      with_reducible rfl
     rotate_left
     ·exact pA
     refine pure_ (i := 3) (N := some 15) (v := ?_) (a' := ?_) (bm 11 9) rfl rfl (any_of HT_.out (by kernel_rfl)) (fun _ _ _ h => h) (Or.inl ⟨by kernel_rfl, ?_⟩) ?_ ?_
     rotate_left
     ·intro w'
      go_simp
      with_reducible rfl
     rotate_left
     ·exact pA
     refine pure_ (i := 4) (N := some 16) (v := ?_) (a' := ?_) (bm 11 25) rfl rfl (any_of HT_.out (by kernel_rfl)) (fun _ _ _ h => h) (Or.inl ⟨by kernel_rfl, ?_⟩) ?_ ?_
     rotate_left
     ·intro w'
      go_simp
      with_reducible rfl
     rotate_left
     ·exact pA
     refine take_ (i := 5) (N := some 17) (v := ?_) (a' := ?_) (bm 11 57) rfl rfl (take_ofW HT_.out HW_.out (by kernel_rfl)) (fun _ _ _ h => h) (Or.inl ⟨by kernel_rfl, ?_⟩) hHeld ?_ ?_
     rotate_left
     ·intro w' _
      go_simp
      with_reducible rfl
     rotate_left
     ·exact pA
     refine pure_ (i := 6) (N := some 18) (v := ?_) (a' := ?_) (bm 11 121) rfl rfl (any_of HT_.out (by kernel_rfl)) (fun _ _ _ h => h) (Or.inl ⟨by kernel_rfl, ?_⟩) ?_ ?_
     rotate_left
     ·intro w'
      go_simp
      with_reducible rfl
     rotate_left
     ·exact pA
     refine pure_ (i := 7) (N := some 19) (v := ?_) (a' := ?_) (bm 11 249) rfl rfl (any_of HT_.out (by kernel_rfl)) (fun _ _ _ h => h) (Or.inl ⟨by kernel_rfl, ?_⟩) ?_ ?_
     rotate_left
     ·intro w'
      go_simp
      with_reducible rfl
     rotate_left
     ·exact pA
     refine join_ (σ := Value × Value × Value) 2 (bm 11 511) (fun s_ => [(13, s_.1), (14, s_.2.1), (20, s_.2.2)]) (fun s_ w' => (Kd.R (Kd.int .u64) 22 w' w.heap.size (fun k_ => some k_ ≠ (s_.2.1 : Value).ownBlock ∧ some k_ ≠ (s_.2.2 : Value).ownBlock ∧ some k_ ≠ (.slice Ao9 x3_1.length co9 : Value).ownBlock) s_.1 y460) ∧ (Kd.R (Kd.int .u64) 22 w' w.heap.size (fun k_ => some k_ ≠ (s_.1 : Value).ownBlock ∧ some k_ ≠ (s_.2.2 : Value).ownBlock ∧ some k_ ≠ (.slice Ao9 x3_1.length co9 : Value).ownBlock) s_.2.1 t463) ∧ (Kd.R (Kd.int .u64) 22 w' w.heap.size (fun k_ => some k_ ≠ (s_.1 : Value).ownBlock ∧ some k_ ≠ (s_.2.1 : Value).ownBlock ∧ some k_ ≠ (.slice Ao9 x3_1.length co9 : Value).ownBlock) s_.2.2 y466) ∧ (Kd.R (Kd.int .u64) 22 w' w.heap.size (fun k_ => some k_ ≠ (s_.1 : Value).ownBlock ∧ some k_ ≠ (s_.2.1 : Value).ownBlock ∧ some k_ ≠ (s_.2.2 : Value).ownBlock) (.slice Ao9 x3_1.length co9) x3_1) ∧ (Below w.heap.size w w')) ?_ ?_
     rotate_left
     ·intro hCont
      refine two_ (i := 1) (j := 8) (Ni := some 13) (Nj := some 20) (bm 11 251) (bm 11 505) rfl rfl rfl rfl (two_of HT_.out (by kernel_rfl)) (by decide) (by decide) (fun K hK => ?_) (fun K hK => ?_)
      ·skip
       refine Kd.R_lit_step (Kd.int .u64) _ 22 ?hg (N := 13) ?hd (xs := ([10] : List Int)) (inner := [.int .u64 10]) (ok := fun _ => True) (okp := fun _ => True) ?hr ?hp (fun _ hk => hk) trivial (Below.refl _ _) (Nat.le_refl _) (by simp) ?_; (case hd => rfl); (case hg => rfl); (case hr => first | (go_simp; done) | (go_simp; rfl)); (case hp => exact (Reps.one (show Kd.M (Kd.int .u64) _ _ _ 10 [.int .u64 10] from rfl) (Reps.none _ _)))
       intro v461 w11 ho12 hb hg_ hnew_
       clear hg_ hnew_
       (first | rw [← Ny460.out] at ho12 | (simp only [Int.reduceToNat] at ho12; rw [← Ny460.out] at ho12))
       have n0_ := am (Kd.R_elder' (pR HO_3.out) (Kd.R_base ho12) hb)
       have n1_ := am (Kd.R_lower (Kd.R_new' ho12 (Kd.R_lt (pR HO_3.out))) (below_size pB))
       have n2_ := am (below_step pB hb)
       clear HO_3 HB; have HO_3 := n0_; have HO462 := n1_; have HB := n2_; clear n0_ n1_ n2_ hb ho12
       obtain ⟨Ao13, co13, eo13⟩ := Kd.R_slice HO462.out
       (first | subst eo13 | (injection eo13 with f1_ f2_ f3_; have f4_ := f1_.symm; have f5_ := f3_.symm; clear f1_ f2_ f3_; subst f4_; subst f5_))
       refine hK.out _ _ trivial (fun hHeld => ?_)
       clear hK K
       refine norm_ (a' := ?_) ?_ ?_
       rotate_left
       ·show Act.put _ (some 13) _ = _
        exact pA
       refine two_ (i := 2) (j := 8) (Ni := some 14) (Nj := some 20) (bm 11 255) (bm 11 507) rfl rfl rfl rfl (two_of HT_.out (by kernel_rfl)) (by decide) (by decide) (fun K hK => ?_) (fun K hK => ?_)
       ·skip
        refine goes_ Tryd.func23 (by kernel_rfl) rfl #[.slice Ao9 x3_1.length co9, .slice Ao13 y460.length co13] (by rfl) rfl rfl pM ?_
        with_reducible refine (r1_Product.calls k1 _ _ x3_1 _ _ y460 t463 _ ?side1 ?side2 ?side3 ?side4 A5.out).mono ?_
        (case side1 => repeat (first | exact (Kd.R_reads' HO_3.out).2.2 | (with_reducible refine Kd.C_alloc ?_ _) | (with_reducible refine Kd.C_drewN ?_ _) | (with_reducible refine Kd.C_drew ?_)))
        (case side2 => exact (Kd.R_reads' HO_3.out).2.1)
        (case side3 => repeat (first | exact (Kd.R_reads' HO462.out).2.2 | (with_reducible refine Kd.C_alloc ?_ _) | (with_reducible refine Kd.C_drewN ?_ _) | (with_reducible refine Kd.C_drew ?_)))
        (case side4 => exact (Kd.R_reads' HO462.out).2.1)
        rintro e w14 ⟨v464, rfl, ho0, hb⟩
        refine ⟨_, rfl, ?_⟩
        have n0_ := am (Kd.R_elder' (pR HO_3.out) (Kd.R_base ho0) hb)
        have n1_ := am (Kd.R_elder' (pR HO462.out) (Kd.R_base ho0) hb)
        have n2_ := am (Kd.R_lower (Kd.R_new' (Kd.R_new' ho0 (Kd.R_lt (pR HO_3.out))) (Kd.R_lt (pR HO462.out))) (below_size pB))
        have n3_ := am (below_step pB hb)
        clear HO_3 HO462 HB; have HO_3 := n0_; have HO462 := n1_; have HO465 := n2_; have HB := n3_; clear n0_ n1_ n2_ n3_; (try clear hb); (try clear ho0)
        refine hK.out _ _ trivial (fun hHeld => ?_)
        clear hK K
        refine norm_ (a' := ?_) ?_ ?_
        rotate_left
        ·show Act.put _ (some 14) _ = _
         exact pA
        refine one_ (i := 8) (N := some 20) (bm 11 511) rfl rfl (one_of HT_.out (by kernel_rfl)) (by decide) (fun K hK => ?_)
        have hu8_ : IntKind.u64.wrap (IntKind.u8.wrap ((bt a0 x4_1) - 48)) = ((bt a0 x4_1) - 48) % 256 := by unfold IntKind.wrap; simp [IntKind.bits, IntKind.signed]; omega
        refine Kd.R_lit_step (Kd.int .u64) _ 22 ?hg (N := 20) ?hd (xs := ([((bt a0 x4_1) - 48) % 256] : List Int)) (inner := [.int .u64 (((bt a0 x4_1) - 48) % 256)]) (ok := fun _ => True) (okp := fun _ => True) ?hr ?hp (fun _ hk => hk) trivial (Below.refl _ _) (Nat.le_refl _) (by simp) ?_; (case hd => rfl); (case hg => rfl); (case hr => first | (go_simp; done) | (go_simp; rfl)); (case hp => exact (Reps.one (show Kd.M (Kd.int .u64) _ _ _ (((bt a0 x4_1) - 48) % 256) [.int .u64 (((bt a0 x4_1) - 48) % 256)] from rfl) (Reps.none _ _)))
        intro v467 w15 ho16 hb hg_ hnew_
        clear hg_ hnew_
        (first | rw [← Ny466.out] at ho16 | (simp only [Int.reduceToNat] at ho16; rw [← Ny466.out] at ho16))
        have n0_ := am (Kd.R_elder' (pR HO_3.out) (Kd.R_base ho16) hb)
        have n1_ := am (Kd.R_elder' (pR HO462.out) (Kd.R_base ho16) hb)
        have n2_ := am (Kd.R_elder' (pR HO465.out) (Kd.R_base ho16) hb)
        have n3_ := am (Kd.R_lower (Kd.R_new' (Kd.R_new' (Kd.R_new' ho16 (Kd.R_lt (pR HO_3.out))) (Kd.R_lt (pR HO462.out))) (Kd.R_lt (pR HO465.out))) (below_size pB))
        have n4_ := am (below_step pB hb)
        clear HO_3 HO462 HO465 HB; have HO_3 := n0_; have HO462 := n1_; have HO465 := n2_; have HO468 := n3_; have HB := n4_; clear n0_ n1_ n2_ n3_ n4_ hb ho16
        refine hK.out _ _ trivial (fun hHeld => ?_)
        clear hK K
        refine norm_ (a' := ?_) ?_ ?_
        rotate_left
        ·show Act.put _ (some 20) _ = _
         exact pA
        exact norm_ (by simp only [putAll, Act.put, List.setIfInBounds_toArray, List.set_cons_zero, List.set_cons_succ]) (hCont (.slice Ao13 y460.length co13, v464, v467) _ ⟨(by (with_reducible repeat (first | apply Kd.R_alloc | apply Kd.R_drewN | apply Kd.R_drew)); exact Kd.R_mono HO462.out (fun _ hk => ⟨hk.1.2, ⟨hk.2, hk.1.1.2⟩⟩)), (by (with_reducible repeat (first | apply Kd.R_alloc | apply Kd.R_drewN | apply Kd.R_drew)); exact Kd.R_mono HO465.out (fun _ hk => ⟨hk.1.2, ⟨hk.2, hk.1.1.2⟩⟩)), (by (with_reducible repeat (first | apply Kd.R_alloc | apply Kd.R_drewN | apply Kd.R_drew)); exact Kd.R_mono HO468.out (fun _ hk => ⟨hk.1.2, ⟨hk.2, hk.1.1.2⟩⟩)), (by (with_reducible repeat (first | apply Kd.R_alloc | apply Kd.R_drewN | apply Kd.R_drew)); exact Kd.R_mono HO_3.out (fun _ hk => ⟨hk.1.1.2, ⟨hk.1.2, hk.2⟩⟩)), pB⟩)
       ·skip
        have hu8_ : IntKind.u64.wrap (IntKind.u8.wrap ((bt a0 x4_1) - 48)) = ((bt a0 x4_1) - 48) % 256 := by unfold IntKind.wrap; simp [IntKind.bits, IntKind.signed]; omega
        refine Kd.R_lit_step (Kd.int .u64) _ 22 ?hg (N := 20) ?hd (xs := ([((bt a0 x4_1) - 48) % 256] : List Int)) (inner := [.int .u64 (((bt a0 x4_1) - 48) % 256)]) (ok := fun _ => True) (okp := fun _ => True) ?hr ?hp (fun _ hk => hk) trivial (Below.refl _ _) (Nat.le_refl _) (by simp) ?_; (case hd => rfl); (case hg => rfl); (case hr => first | (go_simp; done) | (go_simp; rfl)); (case hp => exact (Reps.one (show Kd.M (Kd.int .u64) _ _ _ (((bt a0 x4_1) - 48) % 256) [.int .u64 (((bt a0 x4_1) - 48) % 256)] from rfl) (Reps.none _ _)))
        intro v467 w13 ho14 hb hg_ hnew_
        clear hg_ hnew_
        (first | rw [← Ny466.out] at ho14 | (simp only [Int.reduceToNat] at ho14; rw [← Ny466.out] at ho14))
        have n0_ := am (Kd.R_elder' (pR HO_3.out) (Kd.R_base ho14) hb)
        have n1_ := am (Kd.R_elder' (pR HO462.out) (Kd.R_base ho14) hb)
        have n2_ := am (Kd.R_lower (Kd.R_new' (Kd.R_new' ho14 (Kd.R_lt (pR HO_3.out))) (Kd.R_lt (pR HO462.out))) (below_size pB))
        have n3_ := am (below_step pB hb)
        clear HO_3 HO462 HB; have HO_3 := n0_; have HO462 := n1_; have HO468 := n2_; have HB := n3_; clear n0_ n1_ n2_ n3_ hb ho14
        obtain ⟨Ao15, co15, eo15⟩ := Kd.R_slice HO462.out
        (first | subst eo15 | (injection eo15 with f1_ f2_ f3_; have f4_ := f1_.symm; have f5_ := f3_.symm; clear f1_ f2_ f3_; subst f4_; subst f5_))
        refine hK.out _ _ trivial (fun hHeld => ?_)
        clear hK K
        refine norm_ (a' := ?_) ?_ ?_
        rotate_left
        ·show Act.put _ (some 20) _ = _
         exact pA
        refine one_ (i := 2) (N := some 14) (bm 11 511) rfl rfl (one_of HT_.out (by kernel_rfl)) (by decide) (fun K hK => ?_)
        refine goes_ Tryd.func23 (by kernel_rfl) rfl #[.slice Ao9 x3_1.length co9, .slice Ao15 y460.length co15] (by rfl) rfl rfl pM ?_
        with_reducible refine (r1_Product.calls k1 _ _ x3_1 _ _ y460 t463 _ ?side1 ?side2 ?side3 ?side4 A5.out).mono ?_
        (case side1 => repeat (first | exact (Kd.R_reads' HO_3.out).2.2 | (with_reducible refine Kd.C_alloc ?_ _) | (with_reducible refine Kd.C_drewN ?_ _) | (with_reducible refine Kd.C_drew ?_)))
        (case side2 => exact (Kd.R_reads' HO_3.out).2.1)
        (case side3 => repeat (first | exact (Kd.R_reads' HO462.out).2.2 | (with_reducible refine Kd.C_alloc ?_ _) | (with_reducible refine Kd.C_drewN ?_ _) | (with_reducible refine Kd.C_drew ?_)))
        (case side4 => exact (Kd.R_reads' HO462.out).2.1)
        rintro e w16 ⟨v464, rfl, ho0, hb⟩
        refine ⟨_, rfl, ?_⟩
        have n0_ := am (Kd.R_elder' (pR HO_3.out) (Kd.R_base ho0) hb)
        have n1_ := am (Kd.R_elder' (pR HO462.out) (Kd.R_base ho0) hb)
        have n2_ := am (Kd.R_elder' (pR HO468.out) (Kd.R_base ho0) hb)
        have n3_ := am (Kd.R_lower (Kd.R_new' (Kd.R_new' (Kd.R_new' ho0 (Kd.R_lt (pR HO_3.out))) (Kd.R_lt (pR HO462.out))) (Kd.R_lt (pR HO468.out))) (below_size pB))
        have n4_ := am (below_step pB hb)
        clear HO_3 HO462 HO468 HB; have HO_3 := n0_; have HO462 := n1_; have HO468 := n2_; have HO465 := n3_; have HB := n4_; clear n0_ n1_ n2_ n3_ n4_; (try clear hb); (try clear ho0)
        refine hK.out _ _ trivial (fun hHeld => ?_)
        clear hK K
        refine norm_ (a' := ?_) ?_ ?_
        rotate_left
        ·show Act.put _ (some 14) _ = _
         exact pA
        exact norm_ (by simp only [putAll, Act.put, List.setIfInBounds_toArray, List.set_cons_zero, List.set_cons_succ]) (hCont (.slice Ao15 y460.length co15, v464, v467) _ ⟨(by (with_reducible repeat (first | apply Kd.R_alloc | apply Kd.R_drewN | apply Kd.R_drew)); exact Kd.R_mono HO462.out (fun _ hk => ⟨hk.2, ⟨hk.1.2, hk.1.1.2⟩⟩)), (by (with_reducible repeat (first | apply Kd.R_alloc | apply Kd.R_drewN | apply Kd.R_drew)); exact Kd.R_mono HO465.out (fun _ hk => ⟨hk.1.2, ⟨hk.2, hk.1.1.2⟩⟩)), (by (with_reducible repeat (first | apply Kd.R_alloc | apply Kd.R_drewN | apply Kd.R_drew)); exact Kd.R_mono HO468.out (fun _ hk => ⟨hk.1.2, ⟨hk.2, hk.1.1.2⟩⟩)), (by (with_reducible repeat (first | apply Kd.R_alloc | apply Kd.R_drewN | apply Kd.R_drew)); exact Kd.R_mono HO_3.out (fun _ hk => ⟨hk.1.1.2, ⟨hk.2, hk.1.2⟩⟩)), pB⟩)
      ·skip
       have hu8_ : IntKind.u64.wrap (IntKind.u8.wrap ((bt a0 x4_1) - 48)) = ((bt a0 x4_1) - 48) % 256 := by unfold IntKind.wrap; simp [IntKind.bits, IntKind.signed]; omega
       refine Kd.R_lit_step (Kd.int .u64) _ 22 ?hg (N := 20) ?hd (xs := ([((bt a0 x4_1) - 48) % 256] : List Int)) (inner := [.int .u64 (((bt a0 x4_1) - 48) % 256)]) (ok := fun _ => True) (okp := fun _ => True) ?hr ?hp (fun _ hk => hk) trivial (Below.refl _ _) (Nat.le_refl _) (by simp) ?_; (case hd => rfl); (case hg => rfl); (case hr => first | (go_simp; done) | (go_simp; rfl)); (case hp => exact (Reps.one (show Kd.M (Kd.int .u64) _ _ _ (((bt a0 x4_1) - 48) % 256) [.int .u64 (((bt a0 x4_1) - 48) % 256)] from rfl) (Reps.none _ _)))
       intro v467 w11 ho12 hb hg_ hnew_
       clear hg_ hnew_
       (first | rw [← Ny466.out] at ho12 | (simp only [Int.reduceToNat] at ho12; rw [← Ny466.out] at ho12))
       have n0_ := am (Kd.R_elder' (pR HO_3.out) (Kd.R_base ho12) hb)
       have n1_ := am (Kd.R_lower (Kd.R_new' ho12 (Kd.R_lt (pR HO_3.out))) (below_size pB))
       have n2_ := am (below_step pB hb)
       clear HO_3 HB; have HO_3 := n0_; have HO468 := n1_; have HB := n2_; clear n0_ n1_ n2_ hb ho12
       refine hK.out _ _ trivial (fun hHeld => ?_)
       clear hK K
       refine norm_ (a' := ?_) ?_ ?_
       rotate_left
       ·show Act.put _ (some 20) _ = _
        exact pA
       refine one_ (i := 1) (N := some 13) (bm 11 507) rfl rfl (one_of HT_.out (by kernel_rfl)) (by decide) (fun K hK => ?_)
       refine Kd.R_lit_step (Kd.int .u64) _ 22 ?hg (N := 13) ?hd (xs := ([10] : List Int)) (inner := [.int .u64 10]) (ok := fun _ => True) (okp := fun _ => True) ?hr ?hp (fun _ hk => hk) trivial (Below.refl _ _) (Nat.le_refl _) (by simp) ?_; (case hd => rfl); (case hg => rfl); (case hr => first | (go_simp; done) | (go_simp; rfl)); (case hp => exact (Reps.one (show Kd.M (Kd.int .u64) _ _ _ 10 [.int .u64 10] from rfl) (Reps.none _ _)))
       intro v461 w13 ho14 hb hg_ hnew_
       clear hg_ hnew_
       (first | rw [← Ny460.out] at ho14 | (simp only [Int.reduceToNat] at ho14; rw [← Ny460.out] at ho14))
       have n0_ := am (Kd.R_elder' (pR HO_3.out) (Kd.R_base ho14) hb)
       have n1_ := am (Kd.R_elder' (pR HO468.out) (Kd.R_base ho14) hb)
       have n2_ := am (Kd.R_lower (Kd.R_new' (Kd.R_new' ho14 (Kd.R_lt (pR HO_3.out))) (Kd.R_lt (pR HO468.out))) (below_size pB))
       have n3_ := am (below_step pB hb)
       clear HO_3 HO468 HB; have HO_3 := n0_; have HO468 := n1_; have HO462 := n2_; have HB := n3_; clear n0_ n1_ n2_ n3_ hb ho14
       obtain ⟨Ao15, co15, eo15⟩ := Kd.R_slice HO462.out
       (first | subst eo15 | (injection eo15 with f1_ f2_ f3_; have f4_ := f1_.symm; have f5_ := f3_.symm; clear f1_ f2_ f3_; subst f4_; subst f5_))
       refine hK.out _ _ trivial (fun hHeld => ?_)
       clear hK K
       refine norm_ (a' := ?_) ?_ ?_
       rotate_left
       ·show Act.put _ (some 13) _ = _
        exact pA
       refine one_ (i := 2) (N := some 14) (bm 11 511) rfl rfl (one_of HT_.out (by kernel_rfl)) (by decide) (fun K hK => ?_)
       refine goes_ Tryd.func23 (by kernel_rfl) rfl #[.slice Ao9 x3_1.length co9, .slice Ao15 y460.length co15] (by rfl) rfl rfl pM ?_
       with_reducible refine (r1_Product.calls k1 _ _ x3_1 _ _ y460 t463 _ ?side1 ?side2 ?side3 ?side4 A5.out).mono ?_
       (case side1 => repeat (first | exact (Kd.R_reads' HO_3.out).2.2 | (with_reducible refine Kd.C_alloc ?_ _) | (with_reducible refine Kd.C_drewN ?_ _) | (with_reducible refine Kd.C_drew ?_)))
       (case side2 => exact (Kd.R_reads' HO_3.out).2.1)
       (case side3 => repeat (first | exact (Kd.R_reads' HO462.out).2.2 | (with_reducible refine Kd.C_alloc ?_ _) | (with_reducible refine Kd.C_drewN ?_ _) | (with_reducible refine Kd.C_drew ?_)))
       (case side4 => exact (Kd.R_reads' HO462.out).2.1)
       rintro e w16 ⟨v464, rfl, ho0, hb⟩
       refine ⟨_, rfl, ?_⟩
       have n0_ := am (Kd.R_elder' (pR HO_3.out) (Kd.R_base ho0) hb)
       have n1_ := am (Kd.R_elder' (pR HO468.out) (Kd.R_base ho0) hb)
       have n2_ := am (Kd.R_elder' (pR HO462.out) (Kd.R_base ho0) hb)
       have n3_ := am (Kd.R_lower (Kd.R_new' (Kd.R_new' (Kd.R_new' ho0 (Kd.R_lt (pR HO_3.out))) (Kd.R_lt (pR HO468.out))) (Kd.R_lt (pR HO462.out))) (below_size pB))
       have n4_ := am (below_step pB hb)
       clear HO_3 HO468 HO462 HB; have HO_3 := n0_; have HO468 := n1_; have HO462 := n2_; have HO465 := n3_; have HB := n4_; clear n0_ n1_ n2_ n3_ n4_; (try clear hb); (try clear ho0)
       refine hK.out _ _ trivial (fun hHeld => ?_)
       clear hK K
       refine norm_ (a' := ?_) ?_ ?_
       rotate_left
       ·show Act.put _ (some 14) _ = _
        exact pA
       exact norm_ (by simp only [putAll, Act.put, List.setIfInBounds_toArray, List.set_cons_zero, List.set_cons_succ]) (hCont (.slice Ao15 y460.length co15, v464, v467) _ ⟨(by (with_reducible repeat (first | apply Kd.R_alloc | apply Kd.R_drewN | apply Kd.R_drew)); exact Kd.R_mono HO462.out (fun _ hk => ⟨hk.2, ⟨hk.1.2, hk.1.1.2⟩⟩)), (by (with_reducible repeat (first | apply Kd.R_alloc | apply Kd.R_drewN | apply Kd.R_drew)); exact Kd.R_mono HO465.out (fun _ hk => ⟨hk.2, ⟨hk.1.2, hk.1.1.2⟩⟩)), (by (with_reducible repeat (first | apply Kd.R_alloc | apply Kd.R_drewN | apply Kd.R_drew)); exact Kd.R_mono HO468.out (fun _ hk => ⟨hk.1.2, ⟨hk.2, hk.1.1.2⟩⟩)), (by (with_reducible repeat (first | apply Kd.R_alloc | apply Kd.R_drewN | apply Kd.R_drew)); exact Kd.R_mono HO_3.out (fun _ hk => ⟨hk.1.2, ⟨hk.2, hk.1.1.2⟩⟩)), pB⟩)
     rintro ⟨v461, v464, v467⟩ w17 ⟨h0_, h1_, h2_, h3_, h4_⟩
     have n0_ : Aside0 (Kd.R (Kd.int .u64) 22 w17 w.heap.size (fun k_ => some k_ ≠ (v464 : Value).ownBlock ∧ some k_ ≠ (v467 : Value).ownBlock ∧ some k_ ≠ (.slice Ao9 x3_1.length co9 : Value).ownBlock) v461 y460) := ⟨h0_⟩
     have n1_ : Aside0 (Kd.R (Kd.int .u64) 22 w17 w.heap.size (fun k_ => some k_ ≠ (v461 : Value).ownBlock ∧ some k_ ≠ (v467 : Value).ownBlock ∧ some k_ ≠ (.slice Ao9 x3_1.length co9 : Value).ownBlock) v464 t463) := ⟨h1_⟩
     have n2_ : Aside0 (Kd.R (Kd.int .u64) 22 w17 w.heap.size (fun k_ => some k_ ≠ (v461 : Value).ownBlock ∧ some k_ ≠ (v464 : Value).ownBlock ∧ some k_ ≠ (.slice Ao9 x3_1.length co9 : Value).ownBlock) v467 y466) := ⟨h2_⟩
     have n3_ : Aside0 (Kd.R (Kd.int .u64) 22 w17 w.heap.size (fun k_ => some k_ ≠ (v461 : Value).ownBlock ∧ some k_ ≠ (v464 : Value).ownBlock ∧ some k_ ≠ (v467 : Value).ownBlock) (.slice Ao9 x3_1.length co9) x3_1) := ⟨h3_⟩
     have n4_ : Aside0 (Below w.heap.size w w17) := ⟨h4_⟩
     clear HO_3 HB h0_ h1_ h2_ h3_ h4_; have HO462 := n0_; have HO465 := n1_; have HO468 := n2_; have HO_3 := n3_; have HB := n4_; clear n0_ n1_ n2_ n3_ n4_
     have hHeld := trivial
     obtain ⟨Ao18, co18, eo18⟩ := Kd.R_slice HO465.out
     (first | subst eo18 | (injection eo18 with f1_ f2_ f3_; have f4_ := f1_.symm; have f5_ := f3_.symm; clear f1_ f2_ f3_; subst f4_; subst f5_))
     obtain ⟨Ao19, co19, eo19⟩ := Kd.R_slice HO468.out
     (first | subst eo19 | (injection eo19 with f1_ f2_ f3_; have f4_ := f1_.symm; have f5_ := f3_.symm; clear f1_ f2_ f3_; subst f4_; subst f5_))
     refine norm_ (a' := ?_) ?_ ?_
     rotate_left
     ·exact pA2
     refine one_ (i := 9) (N := some 21) (bm 11 1023) rfl rfl (one_of HT_.out (by kernel_rfl)) (by decide) (fun K hK => ?_)
     refine goes_ Tryd.func46 (by kernel_rfl) rfl #[.slice Ao18 t463.length co18, .slice Ao19 y466.length co19] (by rfl) rfl rfl pM ?_
     with_reducible refine (r1_Sum.calls k1 _ _ t463 _ _ y466 t469 _ ?side1 ?side2 ?side3 ?side4 A8.out).mono ?_
     (case side1 => repeat (first | exact (Kd.R_reads' HO465.out).2.2 | (with_reducible refine Kd.C_alloc ?_ _) | (with_reducible refine Kd.C_drewN ?_ _) | (with_reducible refine Kd.C_drew ?_)))
     (case side2 => exact (Kd.R_reads' HO465.out).2.1)
     (case side3 => repeat (first | exact (Kd.R_reads' HO468.out).2.2 | (with_reducible refine Kd.C_alloc ?_ _) | (with_reducible refine Kd.C_drewN ?_ _) | (with_reducible refine Kd.C_drew ?_)))
     (case side4 => exact (Kd.R_reads' HO468.out).2.1)
     rintro e w20 ⟨v470, rfl, ho0, hb⟩
     refine ⟨_, rfl, ?_⟩
     have n0_ := am (Kd.R_elder' (pR HO_3.out) (Kd.R_base ho0) hb)
     have n1_ := am (Kd.R_elder' (pR HO462.out) (Kd.R_base ho0) hb)
     have n2_ := am (Kd.R_elder' (pR HO465.out) (Kd.R_base ho0) hb)
     have n3_ := am (Kd.R_elder' (pR HO468.out) (Kd.R_base ho0) hb)
     have n4_ := am (Kd.R_lower (Kd.R_new' (Kd.R_new' (Kd.R_new' (Kd.R_new' ho0 (Kd.R_lt (pR HO_3.out))) (Kd.R_lt (pR HO462.out))) (Kd.R_lt (pR HO465.out))) (Kd.R_lt (pR HO468.out))) (below_size pB))
     have n5_ := am (below_step pB hb)
     clear HO_3 HO462 HO465 HO468 HB; have HO_3 := n0_; have HO462 := n1_; have HO465 := n2_; have HO468 := n3_; have HO471 := n4_; have HB := n5_; clear n0_ n1_ n2_ n3_ n4_ n5_; (try clear hb); (try clear ho0)
     refine hK.out _ _ trivial (fun hHeld => ?_)
     clear hK K
     refine norm_ (a' := ?_) ?_ ?_
     rotate_left
     ·show Act.put _ (some 21) _ = _
      exact pA
     refine pure_ (i := 10) (N := some 3) (v := ?_) (a' := ?_) (bm 11 2047) rfl rfl (any_of HT_.out (by kernel_rfl)) (fun _ _ _ h => h) (Or.inl ⟨by kernel_rfl, ?_⟩) ?_ ?_
     rotate_left
     ·intro w'
      go_simp
      with_reducible rfl
     rotate_left
     ·exact pA
     refine done_ (done_of HT_.out (by kernel_rfl)) ?_
     try go_wp2
     go_roundg k1
     case measure => have := HK1.out; omega
     case rel => exact ⟨(t469), (wrap64 (x4_1 + 1)), (by first | rfl | (simp; done) | (simp [*]; done)), H', ⟨by have := HK1.out; omega⟩, ⟨by (with_reducible repeat (first | apply Kd.R_alloc | apply Kd.R_drewN | apply Kd.R_drew)); exact Kd.R_mono HO471.out (fun _ hk => trivial)⟩, ⟨pB⟩⟩
    ·rw [if_neg c6] at H
     exact absurd H (by simp)
   ·rw [if_neg c4] at H
    have c4b0 : decide (x4_1 < (a0.size : Int)) = false := decide_eq_false c4
    clear c4
    obtain rfl := Option.some.inj H
    go_wp2
    go_ret
    exact ⟨_, pE, by (with_reducible repeat (first | apply Kd.R_alloc | apply Kd.R_drewN | apply Kd.R_drew)); exact HO_3.out, pB⟩
def r1_Sign.f (a0 : Bool) : Option (Int) := if a0 = true then (some 9223372036854775808) else (some 0)
set_option maxHeartbeats 8000000 in
set_option maxRecDepth 100000 in
theorem r1_Sign.calls (a0 : Bool) (r : Int) (w : World) (h : r1_Sign.f a0 = some r) :
  Calls Tryd.prog 47 #[.bool a0] w fun e w' => e = .returned (.int .u64 r) ∧ Drawn0 w w' := by
 have H : (if a0 = true then (some 9223372036854775808) else (some 0)) = some r := h
 clear h
 by_cases c2 : a0 = true
 ·subst c2
  rw [if_pos rfl] at H
  obtain rfl := Option.some.inj H
  go_enter Tryd.func47, Tryd.ntmps47
  go_wp2
  go_ret
  exact ⟨by first | rfl | (simp; done) | (simp [*]; done), by repeat (first | exact Drawn0.refl _ | apply Drawn0.step)⟩
 ·replace c2 := Bool.eq_false_iff.mpr c2
  subst c2
  rw [if_neg (show ¬ (false = true) by decide)] at H
  obtain rfl := Option.some.inj H
  go_enter Tryd.func47, Tryd.ntmps47
  go_wp2
  go_ret
  exact ⟨by first | rfl | (simp; done) | (simp [*]; done), by repeat (first | exact Drawn0.refl _ | apply Drawn0.step)⟩
def r1_Infinite.f (a0 : Bool) : Option (Int) := (r1_Sign.f a0).bind fun t472 => (some (Go.bits .or .u64 t472 9218868437227405312))
set_option maxHeartbeats 8000000 in
set_option maxRecDepth 100000 in
theorem r1_Infinite.calls (a0 : Bool) (r : Int) (w : World) (h : r1_Infinite.f a0 = some r) :
  Calls Tryd.prog 21 #[.bool a0] w fun e w' => e = .returned (.int .u64 r) ∧ Drawn0 w w' := by
 have H : ((r1_Sign.f a0).bind fun t472 => (some (Go.bits .or .u64 t472 9218868437227405312))) = some r := h
 clear h
 replace H := Option.bind_eq_some_iff.mp H
 obtain ⟨t472, A20, H⟩ := H
 try dsimp only at H
 have A2 := am A20
 clear A20
 obtain rfl := Option.some.inj H
 go_enter Tryd.func21, Tryd.ntmps21
 go_wp2_with (first | ((with_reducible refine gate_callee (f := 47) rfl ?_); refine goesL_ (some 4) rfl rfl Tryd.func47 (by kernel_rfl) rfl #[.bool a0] rfl pM ?_; (with_reducible refine (r1_Sign.calls a0 t472 _ A2.out).mono ?_); rintro e w' ⟨rfl, ⟨nd, rfl⟩⟩; refine ⟨_, rfl, ?_⟩))
 go_ret
 exact ⟨by first | rfl | (simp; done) | (simp [*]; done), by repeat (first | exact Drawn0.refl _ | apply Drawn0.step)⟩
def r1_Bit.f (l0 : List Int) (a1 : Int) : Option (Int) := (r1_at.f l0 (wrap64 (Int.tdiv a1 16))).bind fun t473 => (if 0 ≤ (IntKind.u64.wrap (Int.tmod a1 16)) then (some (Go.bits .and .u64 (shr .u64 t473 (IntKind.u64.wrap (Int.tmod a1 16))) 1)) else (none))
set_option maxHeartbeats 8000000 in
set_option maxRecDepth 100000 in
theorem r1_Bit.calls (A0 : Option Addr) (c0 : Nat) (l0 : List Int) (a1 : Int) (r : Int) (w : World) (hr0 : Kd.C (Kd.int .u64) w A0 l0.length l0) (hc0 : l0.length ≤ c0) (h : r1_Bit.f l0 a1 = some r) :
  Calls Tryd.prog 51 #[.slice A0 l0.length c0, .int .i64 a1] w fun e w' => e = .returned (.int .u64 r) ∧ Drawn0 w w' := by
 have HR0 := am hr0
 have HC0 := am hc0
 clear hr0 hc0
 have H : ((r1_at.f l0 (wrap64 (Int.tdiv a1 16))).bind fun t473 => (if 0 ≤ (IntKind.u64.wrap (Int.tmod a1 16)) then (some (Go.bits .and .u64 (shr .u64 t473 (IntKind.u64.wrap (Int.tmod a1 16))) 1)) else (none))) = some r := h
 clear h
 replace H := Option.bind_eq_some_iff.mp H
 obtain ⟨t473, A30, H⟩ := H
 try dsimp only at H
 have A3 := am A30
 clear A30
 obtain ⟨ji4, hji4⟩ : ∃ j_ : Int, (IntKind.u64.wrap (Int.tmod a1 16)) = j_ := ⟨_, rfl⟩
 replace H : (if 0 ≤ (ji4) then (some (Go.bits .and .u64 (shr .u64 t473 (ji4)) 1)) else (none)) = some r := by first | (rw [hji4] at H; exact H) | (simp only [hji4] at H ⊢; exact H)
 (try rw [hji4] at A3)
 by_cases c5 : 0 ≤ (ji4)
 ·rw [if_pos c5] at H
  have c5b0 := eq_true c5
  have c5b1 : decide (0 ≤ (ji4)) = true := decide_eq_true c5
  clear c5
  obtain ⟨ji6, hji6⟩ : ∃ j_ : Int, (shr .u64 t473 (ji4)) = j_ := ⟨_, rfl⟩
  replace H : (some (Go.bits .and .u64 (ji6) 1)) = some r := by first | (rw [hji6] at H; exact H) | (simp only [hji6] at H ⊢; exact H)
  (try rw [hji6] at A3)
  have hji6_ : (t473 / 2 ^ min (ji4).toNat 64) = ji6 := hji6
  have hji6z : (ji4) ≤ 64 → (t473 / 2 ^ (ji4).toNat) = ji6 := shr_small hji6
  obtain rfl := Option.some.inj H
  go_enter Tryd.func51, Tryd.ntmps51
  go_wp2_with (first | ((with_reducible refine gate_callee (f := 72) rfl ?_); refine goesL_ (some 8) rfl rfl Tryd.func72 (by kernel_rfl) rfl #[.slice A0 l0.length c0, .int .i64 (wrap64 (Int.tdiv a1 16))] rfl pM ?_; (with_reducible refine (r1_at.calls _ _ l0 (wrap64 (Int.tdiv a1 16)) t473 _ ?side1 ?side2 A3.out).mono ?_); (case side1 => exact pC HR0.out); (case side2 => exact HC0.out); rintro e w' ⟨rfl, ⟨nd, rfl⟩⟩; refine ⟨_, rfl, ?_⟩))
  go_ret
  exact ⟨by first | rfl | (simp; done) | (simp only [← hji4, ← hji6] <;> (first | rfl | simp)) | (simp [*]; done), by repeat (first | exact Drawn0.refl _ | apply Drawn0.step)⟩
 ·rw [if_neg c5] at H
  exact absurd H (by simp)
def r1_Len.l0 : Nat → List Int → Int → Option (Int)
 | 0, _, _ => none
 | k + 1, x0, x3 => if x3 > 0 then ((r1_Bit.f x0 (wrap64 (x3 - 1))).bind fun t474 => (if t474 = 0 then (r1_Len.l0 k x0 (wrap64 (x3 - 1))) else (some x3))) else (some x3)
def r1_Len.f (k : Nat) (l0 : List Int) : Option (Int) := r1_Len.l0 k l0 (wrap64 (16 * (l0.length : Int)))
set_option maxHeartbeats 8000000 in
set_option maxRecDepth 100000 in
theorem r1_Len.calls (k : Nat) (A0 : Option Addr) (c0 : Nat) (l0 : List Int) (r : Int) (w : World) (hr0 : Kd.C (Kd.int .u64) w A0 l0.length l0) (hc0 : l0.length ≤ c0) (h : r1_Len.f k l0 = some r) :
  Calls Tryd.prog 25 #[.slice A0 l0.length c0] w fun e w' => e = .returned (.int .i64 r) ∧ Drawn0 w w' := by
 have HR0 := am hr0
 have HC0 := am hc0
 clear hr0 hc0
 have H : (r1_Len.l0 k l0 (wrap64 (16 * (l0.length : Int)))) = some r := h
 clear h
 have H' := am H
 clear H
 go_enter Tryd.func25, Tryd.ntmps25
 go_wp2
 go_loopg [3] k (fun kq v3 w' => ∃ (x3_1 : Int), v3 = .int .i64 x3_1 ∧ Aside0 (r1_Len.l0 kq l0 x3_1 = some r) ∧ Aside0 (kq ≤ k) ∧ Drawn0 w w')
 case atStart => exact ⟨(wrap64 (16 * (l0.length : Int))), (by first | rfl | (simp; done) | (simp [*]; done)), H', ⟨Nat.le_refl _⟩, by repeat (first | exact Drawn0.refl _ | apply Drawn0.step)⟩
 case round =>
  clear H'
  obtain ⟨x3_1, rfl, HA, HK1, ⟨m1, rfl⟩⟩ := hrel
  cases gk with
  | zero => exact absurd HA.out (by simp [r1_Len.l0])
  | succ k1 =>
   have H := HA.out
   clear HA
   simp only [r1_Len.l0] at H
   by_cases c2 : x3_1 > 0
   ·rw [if_pos c2] at H
    have c2b0 : decide (0 < x3_1) = true := decide_eq_true c2
    clear c2
    replace H := Option.bind_eq_some_iff.mp H
    obtain ⟨t474, A30, H⟩ := H
    try dsimp only at H
    have A3 := am A30
    clear A30
    by_cases c4 : t474 = 0
    ·rw [if_pos c4] at H
     have c4b0 : (t474 == 0) = true := beq_iff_eq.mpr c4
     have c4b1 : (t474 != 0) = false := bne_eq_false_iff_eq.mpr c4
     clear c4
     have H' := am H
     clear H
     go_wp2_with (first | (go_at_call 51; (with_reducible refine (r1_Bit.calls _ _ l0 (wrap64 (x3_1 - 1)) t474 _ ?side1 ?side2 A3.out).mono ?_); (case side1 => exact pC HR0.out); (case side2 => exact HC0.out); rintro e w' ⟨rfl, ⟨nd, rfl⟩⟩))
     go_roundg k1
     case measure => have := HK1.out; omega
     case rel => exact ⟨(wrap64 (x3_1 - 1)), (by first | rfl | (simp; done) | (simp [*]; done)), H', ⟨by have := HK1.out; omega⟩, by repeat (first | exact Drawn0.refl _ | apply Drawn0.step)⟩
    ·rw [if_neg c4] at H
     have c4b0 : (t474 == 0) = false := beq_eq_false_iff_ne.mpr c4
     have c4b1 : (t474 != 0) = true := bne_iff_ne.mpr c4
     obtain rfl := Option.some.inj H
     go_wp2_with (first | (go_at_call 51; (with_reducible refine (r1_Bit.calls _ _ l0 (wrap64 (x3_1 - 1)) t474 _ ?side1 ?side2 A3.out).mono ?_); (case side1 => exact pC HR0.out); (case side2 => exact HC0.out); rintro e w' ⟨rfl, ⟨nd, rfl⟩⟩))
     go_ret
     exact ⟨by first | rfl | (simp; done) | (simp [*]; done), by repeat (first | exact Drawn0.refl _ | apply Drawn0.step)⟩
   ·rw [if_neg c2] at H
    have c2b0 : decide (0 < x3_1) = false := decide_eq_false c2
    clear c2
    obtain rfl := Option.some.inj H
    go_wp2
    go_ret
    exact ⟨by first | rfl | (simp; done) | (simp [*]; done), by repeat (first | exact Drawn0.refl _ | apply Drawn0.step)⟩
def r1_Up.f (k : Nat) (l0 : List Int) (a1 : Int) : Option (List Int) := if 0 ≤ (wrap64 (Int.tdiv a1 16)) then (if (wrap64 (Int.tdiv a1 16) : Int).toNat ≤ 35184372088832 then ((some (List.replicate (wrap64 (Int.tdiv a1 16) : Int).toNat 0 : List Int)).bind fun y475 => (if y475.length + l0.length < 17592186044416 then (if 0 ≤ (IntKind.u64.wrap (Int.tmod a1 16)) then ((r1_Product.f k (y475 ++ l0) (([shl .u64 1 (IntKind.u64.wrap (Int.tmod a1 16))] : List Int))).bind fun t484 => ((r1_Trim.f k t484).bind fun t487 => (some t487))) else (none)) else (none))) else (none)) else (none)
set_option maxHeartbeats 8000000 in
set_option maxRecDepth 100000 in
theorem r1_Up.calls (k : Nat) (A0 : Option Addr) (c0 : Nat) (l0 : List Int) (a1 : Int) (r : List Int) (w : World) (hr0 : Kd.C (Kd.int .u64) w A0 l0.length l0) (hc0 : l0.length ≤ c0) (h : r1_Up.f k l0 a1 = some r) :
  Calls Tryd.prog 27 #[.slice A0 l0.length c0, .int .i64 a1] w fun e w' => ∃ v0_ : Value, e = .returned (v0_) ∧ Kd.R (Kd.int .u64) 22 w' w.heap.size (fun _ => True) v0_ r ∧ Below w.heap.size w w' := by
 have HR0 := am hr0
 have HC0 := am hc0
 clear hr0 hc0
 have HB := am (Below.refl w.heap.size w)
 have H : (if 0 ≤ (wrap64 (Int.tdiv a1 16)) then (if (wrap64 (Int.tdiv a1 16) : Int).toNat ≤ 35184372088832 then ((some (List.replicate (wrap64 (Int.tdiv a1 16) : Int).toNat 0 : List Int)).bind fun y475 => (if y475.length + l0.length < 17592186044416 then (if 0 ≤ (IntKind.u64.wrap (Int.tmod a1 16)) then ((r1_Product.f k (y475 ++ l0) (([shl .u64 1 (IntKind.u64.wrap (Int.tmod a1 16))] : List Int))).bind fun t484 => ((r1_Trim.f k t484).bind fun t487 => (some t487))) else (none)) else (none))) else (none)) else (none)) = some r := h
 clear h
 obtain ⟨ji3, hji3⟩ : ∃ j_ : Int, (wrap64 (Int.tdiv a1 16)) = j_ := ⟨_, rfl⟩
 replace H : (if 0 ≤ (ji3) then (if (ji3 : Int).toNat ≤ 35184372088832 then ((some (List.replicate (ji3 : Int).toNat 0 : List Int)).bind fun y475 => (if y475.length + l0.length < 17592186044416 then (if 0 ≤ (IntKind.u64.wrap (Int.tmod a1 16)) then ((r1_Product.f k (y475 ++ l0) (([shl .u64 1 (IntKind.u64.wrap (Int.tmod a1 16))] : List Int))).bind fun t484 => ((r1_Trim.f k t484).bind fun t487 => (some t487))) else (none)) else (none))) else (none)) else (none)) = some r := by first | (rw [hji3] at H; exact H) | (simp only [hji3] at H ⊢; exact H)
 have hji3w : (IntKind.i64.wrap (Int.tdiv a1 16)) = ji3 := (i64_w _).trans hji3
 by_cases c4 : 0 ≤ (ji3)
 ·rw [if_pos c4] at H
  have c4b0 := eq_true c4
  have c4b1 : decide (0 ≤ (ji3)) = true := decide_eq_true c4
  clear c4
  by_cases c5 : (ji3 : Int).toNat ≤ 35184372088832
  ·rw [if_pos c5] at H
   have c5b0 := eq_true c5
   have c5b1 : decide ((ji3 : Int).toNat ≤ 35184372088832) = true := decide_eq_true c5
   clear c5
   obtain ⟨y475, hy475⟩ : ∃ y_ : List Int, y_ = (List.replicate (ji3 : Int).toNat 0) := ⟨_, rfl⟩
   replace H : (if y475.length + l0.length < 17592186044416 then (if 0 ≤ (IntKind.u64.wrap (Int.tmod a1 16)) then ((r1_Product.f k (y475 ++ l0) (([shl .u64 1 (IntKind.u64.wrap (Int.tmod a1 16))] : List Int))).bind fun t484 => ((r1_Trim.f k t484).bind fun t487 => (some t487))) else (none)) else (none)) = some r := by first | (rw [hy475]; with_reducible exact H) | (have H2_ := (Option.bind_some _ _).symm.trans H; rw [hy475]; with_reducible exact H2_) | (have H2_ := (Option.bind_some _ _).symm.trans H; with_reducible exact H2_) | with_reducible exact H | (rw [hy475]; exact H) | exact H
   have Ny475 := am hy475
   clear hy475
   by_cases c6 : y475.length + l0.length < 17592186044416
   ·rw [if_pos c6] at H
    have LMc6 := am c6
    clear c6
    obtain ⟨y478, hy478⟩ : ∃ y_ : List Int, y_ = (y475 ++ l0) := ⟨_, rfl⟩
    replace H : (if 0 ≤ (IntKind.u64.wrap (Int.tmod a1 16)) then ((r1_Product.f k y478 (([shl .u64 1 (IntKind.u64.wrap (Int.tmod a1 16))] : List Int))).bind fun t484 => ((r1_Trim.f k t484).bind fun t487 => (some t487))) else (none)) = some r := by first | (rw [hy478]; with_reducible exact H) | (have H2_ := (Option.bind_some _ _).symm.trans H; rw [hy478]; with_reducible exact H2_) | (have H2_ := (Option.bind_some _ _).symm.trans H; with_reducible exact H2_) | with_reducible exact H | (rw [hy478]; exact H) | exact H
    have Ny478 := am hy478
    clear hy478
    obtain ⟨ji7, hji7⟩ : ∃ j_ : Int, (IntKind.u64.wrap (Int.tmod a1 16)) = j_ := ⟨_, rfl⟩
    replace H : (if 0 ≤ (ji7) then ((r1_Product.f k y478 (([shl .u64 1 (ji7)] : List Int))).bind fun t484 => ((r1_Trim.f k t484).bind fun t487 => (some t487))) else (none)) = some r := by first | (rw [hji7] at H; exact H) | (simp only [hji7] at H ⊢; exact H)
    by_cases c8 : 0 ≤ (ji7)
    ·rw [if_pos c8] at H
     have c8b0 := eq_true c8
     have c8b1 : decide (0 ≤ (ji7)) = true := decide_eq_true c8
     clear c8
     obtain ⟨ji9, hji9⟩ : ∃ j_ : Int, (shl .u64 1 (ji7)) = j_ := ⟨_, rfl⟩
     replace H : ((r1_Product.f k y478 (([ji9] : List Int))).bind fun t484 => ((r1_Trim.f k t484).bind fun t487 => (some t487))) = some r := by first | (rw [hji9] at H; exact H) | (simp only [hji9] at H ⊢; exact H)
     have hji9_ : (IntKind.u64.wrap (1 * 2 ^ min (ji7).toNat 64)) = ji9 := hji9
     have hji9z : (ji7) ≤ 64 → (IntKind.u64.wrap (1 * 2 ^ (ji7).toNat)) = ji9 := shl_small hji9
     have hji9u : (IntKind.u64.wrap (2 ^ min (ji7).toNat 64)) = ji9 := by have h_ := hji9_; rw [Int.one_mul] at h_; exact h_
     have hji9v : (ji7) ≤ 64 → (IntKind.u64.wrap (2 ^ (ji7).toNat)) = ji9 := fun hle_ => by have h_ := hji9z hle_; rw [Int.one_mul] at h_; exact h_
     obtain ⟨y481, hy481⟩ : ∃ y_ : List Int, y_ = (([ji9] : List Int)) := ⟨_, rfl⟩
     replace H : ((r1_Product.f k y478 y481).bind fun t484 => ((r1_Trim.f k t484).bind fun t487 => (some t487))) = some r := by first | (rw [hy481]; with_reducible exact H) | (have H2_ := (Option.bind_some _ _).symm.trans H; rw [hy481]; with_reducible exact H2_) | (have H2_ := (Option.bind_some _ _).symm.trans H; with_reducible exact H2_) | with_reducible exact H | (rw [hy481]; exact H) | exact H
     have Ny481 := am hy481
     clear hy481
     replace H := Option.bind_eq_some_iff.mp H
     obtain ⟨t484, A100, H⟩ := H
     try dsimp only at H
     have A10 := am A100
     clear A100
     replace H := Option.bind_eq_some_iff.mp H
     obtain ⟨t487, A110, H⟩ := H
     try dsimp only at H
     have A11 := am A110
     clear A110
     obtain rfl := Option.some.inj H
     go_enter Tryd.func27, Tryd.ntmps27
     go_wp2_with (first | ((with_reducible refine gate_dst (N := 8) rfl ?_); refine Kd.R_make (Kd.int .u64) _ 22 rfl (N := 8) rfl 52 _ _ rfl ji3 rfl rfl Tryd.underlying52 (.int .u64 0) 8 info22 rfl (by decide) (by omega) 0 (ok := fun _ => True) (okp := fun _ => True) rfl (fun _ hk => hk) trivial pD (Nat.le_trans (Nat.mul_le_mul_right _ (pD : ji3.toNat ≤ 35184372088832)) (by omega)) (Below.refl _ _) (Nat.le_refl _) ?_; intro v476 w12 ho13 hb hg_ hnew_; clear hg_ hnew_; (first | rw [← Ny475.out] at ho13 | (simp only [Int.reduceToNat] at ho13; rw [← Ny475.out] at ho13)); have HO477 := am (Kd.R_lower ho13 (below_size pB)); replace HB := am (below_step pB hb); clear hb ho13) | ((with_reducible refine gate_builtin (b := .append) (xs := #[.tmp 9, .tmp 10]) rfl ?_); at_builtin; refine Kd.R_append_rows (Kd.int .u64) (w0 := w) w.heap.size rfl (.tmp 9) (.tmp 10) 52 22 (.int .u64 0) 8 rfl Tryd.underlying52 info22 rfl (by decide) (by omega) v476 y475 l0 _ _ _ (fun _ => True) (fun _ => False) rfl rfl ?aO ?aR (fun _ _ h => h) (fun _ h => h.elim) ?aF ?aB ?aS ?aL ?_; (case aR => exact pC (Kd.C_below HR0.out HB.out)); (case aB => exact pB); (case aF => exact (fun _ _ => trivial)); (case aO => exact (pR HO477.out)); (case aS => exact (below_size pB)); (case aL => have := LMc6.out; omega); intro v479 w14 ho hb hg hat; rw [← Ny478.out] at ho; replace HB := am (hb); have HO480 := am (ho); clear HO477; clear ho hb hg hat) | ((with_reducible refine gate_dst (N := 16) rfl ?_); refine Kd.R_lit (Kd.int .u64) _ 22 ?hg (N := 16) ?hd (xs := ([ji9] : List Int)) (inner := [.int .u64 ji9]) (ok := fun _ => True) (okp := fun _ => True) ?hr ?hp (fun _ hk => hk) trivial (Below.refl _ _) (Nat.le_refl _) (by simp) ?_; (case hd => rfl); (case hg => rfl); (case hr => first | (go_simp; done) | (go_simp; rfl)); (case hp => exact (Reps.one (show Kd.M (Kd.int .u64) _ _ _ ji9 [.int .u64 ji9] from rfl) (Reps.none _ _))); intro v482 w15 ho16 hb hg_ hnew_; clear hg_ hnew_; (first | rw [← Ny481.out] at ho16 | (simp only [Int.reduceToNat] at ho16; rw [← Ny481.out] at ho16)); have HO483 := am (Kd.R_lower (Kd.R_new' ho16 (Kd.R_lt (pR HO480.out))) (below_size pB)); replace HO480 := am (Kd.R_elder' (pR HO480.out) (Kd.R_base ho16) hb); replace HB := am (below_step pB hb); clear hb ho16; obtain ⟨Ao17, co17, eo17⟩ := Kd.R_slice HO480.out; subst eo17; obtain ⟨Ao18, co18, eo18⟩ := Kd.R_slice HO483.out; subst eo18) | ((with_reducible refine gate_callee (f := 23) rfl ?_); refine goesL_ (some 17) rfl rfl Tryd.func23 (by kernel_rfl) rfl #[.slice Ao17 y478.length co17, .slice Ao18 y481.length co18] rfl pM ?_; (with_reducible refine (r1_Product.calls k _ _ y478 _ _ y481 t484 _ ?side1 ?side2 ?side3 ?side4 A10.out).mono ?_); (case side1 => repeat (first | exact (Kd.R_reads' HO480.out).2.2 | (with_reducible refine Kd.C_alloc ?_ _) | (with_reducible refine Kd.C_drewN ?_ _) | (with_reducible refine Kd.C_drew ?_))); (case side2 => exact (Kd.R_reads' HO480.out).2.1); (case side3 => repeat (first | exact (Kd.R_reads' HO483.out).2.2 | (with_reducible refine Kd.C_alloc ?_ _) | (with_reducible refine Kd.C_drewN ?_ _) | (with_reducible refine Kd.C_drew ?_))); (case side4 => exact (Kd.R_reads' HO483.out).2.1); rintro e w19 ⟨v485, rfl, ho0, hb⟩; refine ⟨_, rfl, ?_⟩; have HO486 := am (Kd.R_lower (Kd.R_new' (Kd.R_new' ho0 (Kd.R_lt (pR HO480.out))) (Kd.R_lt (pR HO483.out))) (below_size pB)); replace HO480 := am (Kd.R_elder' (pR HO480.out) (Kd.R_base ho0) hb); replace HO483 := am (Kd.R_elder' (pR HO483.out) (Kd.R_base ho0) hb); replace HB := am (below_step pB hb); (try clear hb); (try clear ho0); obtain ⟨Ao20, co20, eo20⟩ := Kd.R_slice HO486.out; subst eo20) | ((with_reducible refine gate_callee (f := 50) rfl ?_); refine goesL_ (some 18) rfl rfl Tryd.func50 (by kernel_rfl) rfl #[.slice Ao20 t484.length co20] rfl pM ?_; (with_reducible refine (r1_Trim.calls k _ _ t484 t487 _ ?side1 ?side2 A11.out).mono ?_); (case side1 => repeat (first | exact (Kd.R_reads' HO486.out).2.2 | (with_reducible refine Kd.C_alloc ?_ _) | (with_reducible refine Kd.C_drewN ?_ _) | (with_reducible refine Kd.C_drew ?_))); (case side2 => exact (Kd.R_reads' HO486.out).2.1); rintro e w21 ⟨v488, rfl, ho0, hb⟩; refine ⟨_, rfl, ?_⟩; have HO489 := am (Kd.R_lower (Kd.R_new' (Kd.R_new' (Kd.R_new' ho0 (Kd.R_lt (pR HO480.out))) (Kd.R_lt (pR HO483.out))) (Kd.R_lt (pR HO486.out))) (below_size pB)); replace HO480 := am (Kd.R_elder' (pR HO480.out) (Kd.R_base ho0) hb); replace HO483 := am (Kd.R_elder' (pR HO483.out) (Kd.R_base ho0) hb); replace HO486 := am (Kd.R_elder' (pR HO486.out) (Kd.R_base ho0) hb); replace HB := am (below_step pB hb); (try clear hb); (try clear ho0)))
     go_ret
     exact ⟨_, by first | rfl | (simp [errW_none, errW_some] <;> rfl) | (simp only [← hji3, ← hji7, ← hji9]; first | rfl | (simp [errW_none, errW_some] <;> rfl)) | (simp [*, errW_none, errW_some] <;> rfl), by (with_reducible repeat (first | apply Kd.R_alloc | apply Kd.R_drewN | apply Kd.R_drew)); exact Kd.R_mono HO489.out (fun _ hk => trivial), pB⟩
    ·rw [if_neg c8] at H
     exact absurd H (by simp)
   ·rw [if_neg c6] at H
    exact absurd H (by simp)
  ·rw [if_neg c5] at H
   exact absurd H (by simp)
 ·rw [if_neg c4] at H
  exact absurd H (by simp)
end Go.Proofs.YtflcanpajgpghaaDoor.Pr
end
section
namespace Go.Proofs.YtflcanpajgpghaaDoor.Pr
open Go.RowKit Go.Proofs.YtflcanpajgpghaaDoorW.PrintWords Go.Proofs.YtflcanpajgpghaaDoorW.PrintLast Go.Proofs.YtflcanpajgpghaaDoorW.PrintMore
attribute [local go_sem] max2_int min2_int max_two min_two max_three min_three max_four min_four
mutual
def r1_Down.j1 : Nat → List Int → Int → Bool → Option (List Int × Bool)
 | 0, _, _, _ => none
 | k + 1, x0, x1, x6 => r1_Down.l1 k x0 x6 (([] : List Int)) x1
def r1_Down.l1 : Nat → List Int → Bool → List Int → Int → Option (List Int × Bool)
 | 0, _, _, _, _ => none
 | k + 1, x0, x6, x8, x9 => if x9 < (wrap64 (16 * (x0.length : Int))) then (r1_Down.l2 k x0 x6 x8 x9 0 0) else ((r1_Trim.f k x8).bind fun t494 => (some (t494, x6)))
def r1_Down.l2 : Nat → List Int → Bool → List Int → Int → Int → Int → Option (List Int × Bool)
 | 0, _, _, _, _, _, _ => none
 | k + 1, x0, x6, x8, x9, x10, x11 => if x11 < 16 then ((r1_Bit.f x0 (wrap64 (x9 + x11))).bind fun t497 => (if 0 ≤ (IntKind.u64.wrap (x11)) then (r1_Down.l2 k x0 x6 x8 x9 (Go.bits .or .u64 x10 (shl .u64 t497 (IntKind.u64.wrap (x11)))) (wrap64 (x11 + 1))) else (none))) else (if x8.length < 17592186044416 then (r1_Down.l1 k x0 x6 (x8 ++ [x10]) (wrap64 (x9 + 16))) else (none))
def r1_Down.l0 : Nat → List Int → Int → Bool → Int → Option (List Int × Bool)
 | 0, _, _, _, _ => none
 | k + 1, x0, x1, x6, x7 => if x7 < x1 then (if x7 < (wrap64 (16 * (x0.length : Int))) then (if x6 = true then (r1_Down.l0 k x0 x1 true (wrap64 (x7 + 1))) else ((r1_Bit.f x0 x7).bind fun t490 => (r1_Down.l0 k x0 x1 (t490 == 1) (wrap64 (x7 + 1))))) else (r1_Down.j1 k x0 x1 x6)) else (r1_Down.j1 k x0 x1 x6)
end
def r1_Down.f (k : Nat) (l0 : List Int) (a1 : Int) : Option (List Int × Bool) := r1_Down.l0 k l0 a1 false 0
set_option maxHeartbeats 8000000 in
set_option maxRecDepth 100000 in
theorem r1_Down.calls (k : Nat) (A0 : Option Addr) (c0 : Nat) (l0 : List Int) (a1 : Int) (r1 : List Int) (r2 : Bool) (w : World) (hr0 : Kd.C (Kd.int .u64) w A0 l0.length l0) (hc0 : l0.length ≤ c0) (h : r1_Down.f k l0 a1 = some (r1, r2)) :
  Calls Tryd.prog 48 #[.slice A0 l0.length c0, .int .i64 a1] w fun e w' => ∃ v0_ : Value, e = .returned (.tuple #[v0_, .bool r2]) ∧ Kd.R (Kd.int .u64) 22 w' w.heap.size (fun _ => True) v0_ r1 ∧ Below w.heap.size w w' := by
 have HR0 := am hr0
 have HC0 := am hc0
 clear hr0 hc0
 have HB := am (Below.refl w.heap.size w)
 have H : (r1_Down.l0 k l0 a1 false 0) = some (r1, r2) := h
 clear h
 have HC3 := am H
 clear H
 go_enter Tryd.func48, Tryd.ntmps48
 go_upto_block 0 with (fail)
 go_cut [6] (fun v6 wc => ∃ (kq : Nat) (x6_2 : Bool), v6 = .bool x6_2 ∧ Aside0 (r1_Down.j1 kq l0 a1 x6_2 = some (r1, r2)) ∧ Aside0 (kq ≤ k) ∧ Aside0 (Below w.heap.size w wc))
 case first =>
  have H := HC3.out
  clear HC3
  have H' := am H
  clear H
  go_wp2
  go_loopg [6, 7] k (fun kq v6 v7 w' => ∃ (x6_1 : Bool) (x7_1 : Int), v6 = .bool x6_1 ∧ v7 = .int .i64 x7_1 ∧ Aside0 (r1_Down.l0 kq l0 a1 x6_1 x7_1 = some (r1, r2)) ∧ Aside0 (kq ≤ k) ∧ Aside0 (Below w.heap.size w w'))
  case atStart => exact ⟨(false), (0), (by first | rfl | (simp; done) | (simp [*]; done)), (by first | rfl | (simp; done) | (simp [*]; done)), H', ⟨Nat.le_refl _⟩, ⟨pB⟩⟩
  case round =>
   clear H'
   try clear p2
   obtain ⟨x6_1, x7_1, rfl, rfl, HA, HK1, HB⟩ := hrel
   cases gk with
   | zero => exact absurd HA.out (by simp [r1_Down.l0])
   | succ k1 =>
    have H := HA.out
    clear HA
    simp only [r1_Down.l0] at H
    by_cases c4 : x7_1 < a1
    ·rw [if_pos c4] at H
     have c4b0 : decide (x7_1 < a1) = true := decide_eq_true c4
     clear c4
     (first | rw [c4b0] | (simp only [i64_w, i32_w]; rw [c4b0]) | rw [c4b1] | (simp only [i64_w, i32_w]; rw [c4b1]) | skip)
     by_cases c5 : x7_1 < (wrap64 (16 * (l0.length : Int)))
     ·rw [if_pos c5] at H
      have c5b0 : decide (x7_1 < (wrap64 (16 * (l0.length : Int)))) = true := decide_eq_true c5
      clear c5
      by_cases c6 : x6_1 = true
      ·subst c6
       rw [if_pos rfl] at H
       have H' := am H
       clear H
       go_wp2
       go_roundg k1
       case measure => have := HK1.out; omega
       case rel => exact ⟨(true), (wrap64 (x7_1 + 1)), (by first | rfl | (simp; done) | (simp [*]; done)), (by first | rfl | (simp; done) | (simp [*]; done)), H', ⟨by have := HK1.out; omega⟩, ⟨pB⟩⟩
      ·replace c6 := Bool.eq_false_iff.mpr c6
       subst c6
       rw [if_neg (show ¬ (false = true) by decide)] at H
       replace H := Option.bind_eq_some_iff.mp H
       obtain ⟨t490, A70, H⟩ := H
       try dsimp only at H
       have A7 := am A70
       clear A70
       have H' := am H
       clear H
       go_wp2_with (first | (go_at_call 51; (with_reducible refine (r1_Bit.calls _ _ l0 x7_1 t490 _ ?side1 ?side2 A7.out).mono ?_); (case side1 => exact pC (Kd.C_below HR0.out HB.out)); (case side2 => exact HC0.out); rintro e w' ⟨rfl, ⟨nd, rfl⟩⟩))
       go_roundg k1
       case measure => have := HK1.out; omega
       case rel => exact ⟨((t490 == 1)), (wrap64 (x7_1 + 1)), (by first | rfl | (simp; done) | (simp [*]; done)), (by first | rfl | (simp; done) | (simp [*]; done)), H', ⟨by have := HK1.out; omega⟩, ⟨pB⟩⟩
     ·rw [if_neg c5] at H
      have c5b0 : decide (x7_1 < (wrap64 (16 * (l0.length : Int)))) = false := decide_eq_false c5
      clear c5
      have H' := am H
      clear H
      go_wp2
      go_meet
      case rel => exact ⟨_, (x6_1), (by first | rfl | (simp; done) | (simp [*]; done)), H', ⟨by have := HK1.out; first | omega | exact Nat.le_refl _⟩, ⟨pB⟩⟩
    ·rw [if_neg c4] at H
     have c4b0 : decide (x7_1 < a1) = false := decide_eq_false c4
     clear c4
     (first | rw [c4b0] | (simp only [i64_w, i32_w]; rw [c4b0]) | rw [c4b1] | (simp only [i64_w, i32_w]; rw [c4b1]) | skip)
     have H' := am H
     clear H
     go_wp2
     go_meet
     case rel => exact ⟨_, (x6_1), (by first | rfl | (simp; done) | (simp [*]; done)), H', ⟨by have := HK1.out; first | omega | exact Nat.le_refl _⟩, ⟨pB⟩⟩
 case rest =>
  clear HC3
  try clear p2
  try clear c4
  try clear c4b0
  try clear c4b1
  try clear c5
  try clear c5b0
  try clear c6
  try clear p6
  try clear p2
  obtain ⟨kq, x6_2, rfl, HA, HJ2, HB⟩ := hcut
  cases kq with
  | zero => exact absurd HA.out (by simp [r1_Down.j1])
  | succ kj2 =>
   have H := HA.out
   clear HA
   simp only [r1_Down.j1] at H
   obtain ⟨y491, hy491⟩ : ∃ y_ : List Int, y_ = (([] : List Int)) := ⟨_, rfl⟩
   replace H : (r1_Down.l1 kj2 l0 x6_2 y491 a1) = some (r1, r2) := by first | (rw [hy491]; with_reducible exact H) | (have H2_ := (Option.bind_some _ _).symm.trans H; rw [hy491]; with_reducible exact H2_) | (have H2_ := (Option.bind_some _ _).symm.trans H; with_reducible exact H2_) | with_reducible exact H | (rw [hy491]; exact H) | exact H
   have Ny491 := am hy491
   clear hy491
   have H' := am H
   clear H
   go_wp2_with (first | ((with_reducible refine gate_dst (N := 31) rfl ?_); (try (refine gate_guard (by rfl) ?_; dsimp only)); refine Kd.R_lit (Kd.int .u64) _ 22 ?hg (N := 31) ?hd (xs := ([] : List Int)) (inner := []) (ok := fun _ => True) (okp := fun _ => True) ?hr ?hp (fun _ hk => hk) trivial (Below.refl _ _) (Nat.le_refl _) (by simp) ?_; (case hd => rfl); (case hg => rfl); (case hr => first | (go_simp; done) | (go_simp; rfl)); (case hp => exact (Reps.none _ _)); intro v492 w8 ho9 hb hg_ hnew_; clear hg_ hnew_; (first | rw [← Ny491.out] at ho9 | (simp only [Int.reduceToNat] at ho9; rw [← Ny491.out] at ho9)); have HO493 := am (Kd.R_lower ho9 (below_size pB)); replace HB := am (below_step pB hb); clear hb ho9))
   go_loopg [8, 9] kj2 (fun kq v8 v9 w' => ∃ (x8_2 : List Int) (x9_2 : Int), v9 = .int .i64 x9_2 ∧ Aside0 (r1_Down.l1 kq l0 x6_2 x8_2 x9_2 = some (r1, r2)) ∧ Aside0 (kq ≤ kj2) ∧ Aside0 (Kd.R (Kd.int .u64) 22 w' w.heap.size (fun _ => True) v8 x8_2) ∧ Aside0 (Below w.heap.size w w'))
   case atStart => exact ⟨(y491), (a1), (by first | rfl | (simp; done) | (simp [*]; done)), H', ⟨Nat.le_refl _⟩, ⟨by (with_reducible repeat (first | apply Kd.R_alloc | apply Kd.R_drewN | apply Kd.R_drew)); exact HO493.out⟩, ⟨pB⟩⟩
   case round =>
    clear H'
    try clear p2
    try clear c4
    try clear c4b0
    try clear c4b1
    try clear c5
    try clear c5b0
    try clear c6
    try clear p6
    try clear p2
    try clear p6
    obtain ⟨x8_2, x9_2, rfl, HA, HK2, HO_8, HB⟩ := hrel
    cases gk with
    | zero => exact absurd HA.out (by simp [r1_Down.l1])
    | succ k2 =>
     have H := HA.out
     clear HA
     simp only [r1_Down.l1] at H
     by_cases c10 : x9_2 < (wrap64 (16 * (l0.length : Int)))
     ·rw [if_pos c10] at H
      have c10b0 : decide (x9_2 < (wrap64 (16 * (l0.length : Int)))) = true := decide_eq_true c10
      clear c10
      have H' := am H
      clear H
      go_wp2
      go_loopg [10, 11] k2 (fun kq v10 v11 w' => ∃ (x10_3 : Int) (x11_3 : Int), v10 = .int .u64 x10_3 ∧ v11 = .int .i64 x11_3 ∧ Aside0 (r1_Down.l2 kq l0 x6_2 x8_2 x9_2 x10_3 x11_3 = some (r1, r2)) ∧ Aside0 (kq ≤ k2) ∧ Aside0 (Kd.R (Kd.int .u64) 22 w' w.heap.size (fun _ => True) u8 x8_2) ∧ Aside0 (Below w.heap.size w w'))
      case atStart => exact ⟨(0), (0), (by first | rfl | (simp; done) | (simp [*]; done)), (by first | rfl | (simp; done) | (simp [*]; done)), H', ⟨Nat.le_refl _⟩, ⟨by (with_reducible repeat (first | apply Kd.R_alloc | apply Kd.R_drewN | apply Kd.R_drew)); exact HO_8.out⟩, ⟨pB⟩⟩
      case round =>
       clear H'
       try clear c1
       try clear p2
       try clear c4
       try clear c4b0
       try clear c4b1
       try clear c5
       try clear c5b0
       try clear c6
       try clear p6
       try clear c10
       try clear c10b0
       try clear p2
       try clear p6
       obtain ⟨x10_3, x11_3, rfl, rfl, HA, HK3, HO_8, HB⟩ := hrel
       cases gk with
       | zero => exact absurd HA.out (by simp [r1_Down.l2])
       | succ k3 =>
        have H := HA.out
        clear HA
        simp only [r1_Down.l2] at H
        by_cases c11 : x11_3 < 16
        ·rw [if_pos c11] at H
         have c11b0 : decide (x11_3 < 16) = true := decide_eq_true c11
         clear c11
         replace H := Option.bind_eq_some_iff.mp H
         obtain ⟨t497, A120, H⟩ := H
         try dsimp only at H
         have A12 := am A120
         clear A120
         obtain ⟨ji13, hji13⟩ : ∃ j_ : Int, (IntKind.u64.wrap (x11_3)) = j_ := ⟨_, rfl⟩
         replace H : (if 0 ≤ (ji13) then (r1_Down.l2 k3 l0 x6_2 x8_2 x9_2 (Go.bits .or .u64 x10_3 (shl .u64 t497 (ji13))) (wrap64 (x11_3 + 1))) else (none)) = some (r1, r2) := by first | (rw [hji13] at H; exact H) | (simp only [hji13] at H ⊢; exact H)
         (try rw [hji13] at A12)
         by_cases c14 : 0 ≤ (ji13)
         ·rw [if_pos c14] at H
          have c14b0 := eq_true c14
          have c14b1 : decide (0 ≤ (ji13)) = true := decide_eq_true c14
          clear c14
          obtain ⟨ji15, hji15⟩ : ∃ j_ : Int, (shl .u64 t497 (ji13)) = j_ := ⟨_, rfl⟩
          replace H : (r1_Down.l2 k3 l0 x6_2 x8_2 x9_2 (Go.bits .or .u64 x10_3 (ji15)) (wrap64 (x11_3 + 1))) = some (r1, r2) := by first | (rw [hji15] at H; exact H) | (simp only [hji15] at H ⊢; exact H)
          (try rw [hji15] at A12)
          have hji15_ : (IntKind.u64.wrap (t497 * 2 ^ min (ji13).toNat 64)) = ji15 := hji15
          have hji15z : (ji13) ≤ 64 → (IntKind.u64.wrap (t497 * 2 ^ (ji13).toNat)) = ji15 := shl_small hji15
          have H' := am H
          clear H
          go_wp2_with (first | ((with_reducible refine gate_callee (f := 51) rfl ?_); refine goesL_ (some 49) rfl rfl Tryd.func51 (by kernel_rfl) rfl #[.slice A0 l0.length c0, .int .i64 (wrap64 (x9_2 + x11_3))] rfl pM ?_; (with_reducible refine (r1_Bit.calls _ _ l0 (wrap64 (x9_2 + x11_3)) t497 _ ?side1 ?side2 A12.out).mono ?_); (case side1 => exact pC (Kd.C_below HR0.out HB.out)); (case side2 => exact HC0.out); rintro e w' ⟨rfl, ⟨nd, rfl⟩⟩; refine ⟨_, rfl, ?_⟩))
          go_roundg k3
          case measure => have := HJ2.out; have := HK2.out; have := HK3.out; omega
          case rel => exact ⟨(Go.bits .or .u64 x10_3 (ji15)), (wrap64 (x11_3 + 1)), (by first | rfl | (simp; done) | (simp only [← hji15] <;> (first | rfl | simp)) | (simp [*]; done)), (by first | rfl | (simp; done) | (simp [*]; done)), H', ⟨by have := HJ2.out; have := HK2.out; have := HK3.out; omega⟩, ⟨by (with_reducible repeat (first | apply Kd.R_alloc | apply Kd.R_drewN | apply Kd.R_drew)); exact HO_8.out⟩, ⟨pB⟩⟩
         ·rw [if_neg c14] at H
          exact absurd H (by simp)
        ·rw [if_neg c11] at H
         have c11b0 : decide (x11_3 < 16) = false := decide_eq_false c11
         clear c11
         by_cases c16 : x8_2.length < 17592186044416
         ·rw [if_pos c16] at H
          have LMc16 := am c16
          clear c16
          obtain ⟨y498, hy498⟩ : ∃ y_ : List Int, y_ = (x8_2 ++ [x10_3]) := ⟨_, rfl⟩
          replace H : (r1_Down.l1 k3 l0 x6_2 y498 (wrap64 (x9_2 + 16))) = some (r1, r2) := by first | (rw [hy498]; with_reducible exact H) | (have H2_ := (Option.bind_some _ _).symm.trans H; rw [hy498]; with_reducible exact H2_) | (have H2_ := (Option.bind_some _ _).symm.trans H; with_reducible exact H2_) | with_reducible exact H | (rw [hy498]; exact H) | exact H
          have Ny498 := am hy498
          clear hy498
          have H' := am H
          clear H
          go_wp2_with (first | ((with_reducible refine gate_builtin (b := .append) (xs := #[.tmp 54, .tmp 56]) rfl ?_); (try (refine gate_guard (by rfl) ?_; dsimp only)); at_builtin; refine Kd.R_append (Kd.int .u64) (w0 := w) w.heap.size rfl (.tmp 54) (.tmp 56) 52 22 (.int .u64 0) 8 rfl Tryd.underlying52 info22 rfl (by decide) (by omega) u8 x8_2 x10_3 [.int .u64 x10_3] (fun _ => True) (fun _ => False) rfl rfl ?aP (fun _ hk => hk.elim) ?aF ?aO ?aB ?aS ?aL ?_; (case aP => exact rfl); (case aB => exact pB); (case aF => exact (fun _ _ => trivial)); (case aO => exact (pR HO_8.out)); (case aS => exact (below_size pB)); (case aL => have := LMc16.out; omega); intro v499 w17 ho hb hg hat; rw [← Ny498.out] at ho; replace HB := am (hb); have HO500 := am (ho); clear HO_8; clear ho hb hg hat))
          go_roundg k3
          case measure => have := HJ2.out; have := HK2.out; have := HK3.out; omega
          case rel => exact ⟨(y498), (wrap64 (x9_2 + 16)), (by first | rfl | (simp; done) | (simp [*]; done)), H', ⟨by have := HJ2.out; have := HK2.out; have := HK3.out; omega⟩, ⟨by (with_reducible repeat (first | apply Kd.R_alloc | apply Kd.R_drewN | apply Kd.R_drew)); exact HO500.out⟩, ⟨pB⟩⟩
         ·rw [if_neg c16] at H
          exact absurd H (by simp)
     ·rw [if_neg c10] at H
      have c10b0 : decide (x9_2 < (wrap64 (16 * (l0.length : Int)))) = false := decide_eq_false c10
      clear c10
      replace H := Option.bind_eq_some_iff.mp H
      obtain ⟨t494, A180, H⟩ := H
      try dsimp only at H
      have A18 := am A180
      clear A180
      simp only [Option.some.injEq, Prod.mk.injEq] at H
      obtain ⟨rfl, rfl⟩ := H
      obtain ⟨Ao19, co19, eo19⟩ := Kd.R_slice HO_8.out
      subst eo19
      go_wp2_with (first | ((with_reducible refine gate_callee (f := 50) rfl ?_); refine goesL_ (some 59) rfl rfl Tryd.func50 (by kernel_rfl) rfl #[.slice Ao19 x8_2.length co19] rfl pM ?_; (with_reducible refine (r1_Trim.calls k2 _ _ x8_2 t494 _ ?side1 ?side2 A18.out).mono ?_); (case side1 => repeat (first | exact (Kd.R_reads' HO_8.out).2.2 | (with_reducible refine Kd.C_alloc ?_ _) | (with_reducible refine Kd.C_drewN ?_ _) | (with_reducible refine Kd.C_drew ?_))); (case side2 => exact (Kd.R_reads' HO_8.out).2.1); rintro e w20 ⟨v495, rfl, ho0, hb⟩; refine ⟨_, rfl, ?_⟩; have HO496 := am (Kd.R_lower (Kd.R_new' ho0 (Kd.R_lt (pR HO_8.out))) (below_size pB)); replace HO_8 := am (Kd.R_elder' (pR HO_8.out) (Kd.R_base ho0) hb); replace HB := am (below_step pB hb); (try clear hb); (try clear ho0)))
      go_ret2
      exact ⟨_, pE, by (with_reducible repeat (first | apply Kd.R_alloc | apply Kd.R_drewN | apply Kd.R_drew)); exact Kd.R_mono HO496.out (fun _ hk => trivial), pB⟩
def r1_Small.f (l0 : List Int) : Option (Int) := (r1_at.f l0 0).bind fun t501 => ((r1_at.f l0 1).bind fun t502 => ((r1_at.f l0 2).bind fun t503 => ((r1_at.f l0 3).bind fun t504 => (some (Go.bits .or .u64 (Go.bits .or .u64 (Go.bits .or .u64 t501 (IntKind.u64.wrap (t502 * 65536))) (IntKind.u64.wrap (t503 * 4294967296))) (IntKind.u64.wrap (t504 * 281474976710656)))))))
set_option maxHeartbeats 8000000 in
set_option maxRecDepth 100000 in
theorem r1_Small.calls (A0 : Option Addr) (c0 : Nat) (l0 : List Int) (r : Int) (w : World) (hr0 : Kd.C (Kd.int .u64) w A0 l0.length l0) (hc0 : l0.length ≤ c0) (h : r1_Small.f l0 = some r) :
  Calls Tryd.prog 49 #[.slice A0 l0.length c0] w fun e w' => e = .returned (.int .u64 r) ∧ Drawn0 w w' := by
 have HR0 := am hr0
 have HC0 := am hc0
 clear hr0 hc0
 have H : ((r1_at.f l0 0).bind fun t501 => ((r1_at.f l0 1).bind fun t502 => ((r1_at.f l0 2).bind fun t503 => ((r1_at.f l0 3).bind fun t504 => (some (Go.bits .or .u64 (Go.bits .or .u64 (Go.bits .or .u64 t501 (IntKind.u64.wrap (t502 * 65536))) (IntKind.u64.wrap (t503 * 4294967296))) (IntKind.u64.wrap (t504 * 281474976710656)))))))) = some r := h
 clear h
 replace H := Option.bind_eq_some_iff.mp H
 obtain ⟨t501, A20, H⟩ := H
 try dsimp only at H
 have A2 := am A20
 clear A20
 replace H := Option.bind_eq_some_iff.mp H
 obtain ⟨t502, A30, H⟩ := H
 try dsimp only at H
 have A3 := am A30
 clear A30
 replace H := Option.bind_eq_some_iff.mp H
 obtain ⟨t503, A40, H⟩ := H
 try dsimp only at H
 have A4 := am A40
 clear A40
 replace H := Option.bind_eq_some_iff.mp H
 obtain ⟨t504, A50, H⟩ := H
 try dsimp only at H
 have A5 := am A50
 clear A50
 obtain rfl := Option.some.inj H
 go_enter Tryd.func49, Tryd.ntmps49
 go_wp2_with (first | ((with_reducible refine gate_callee (f := 72) rfl ?_); refine goesL_ (some 4) rfl rfl Tryd.func72 (by kernel_rfl) rfl #[.slice A0 l0.length c0, .int .i64 0] rfl pM ?_; (with_reducible refine (r1_at.calls _ _ l0 0 t501 _ ?side1 ?side2 A2.out).mono ?_); (case side1 => exact pC HR0.out); (case side2 => exact HC0.out); rintro e w' ⟨rfl, ⟨nd, rfl⟩⟩; refine ⟨_, rfl, ?_⟩) | ((with_reducible refine gate_callee (f := 72) rfl ?_); refine goesL_ (some 6) rfl rfl Tryd.func72 (by kernel_rfl) rfl #[.slice A0 l0.length c0, .int .i64 1] rfl pM ?_; (with_reducible refine (r1_at.calls _ _ l0 1 t502 _ ?side1 ?side2 A3.out).mono ?_); (case side1 => exact pC HR0.out); (case side2 => exact HC0.out); rintro e w' ⟨rfl, ⟨nd, rfl⟩⟩; refine ⟨_, rfl, ?_⟩) | ((with_reducible refine gate_callee (f := 72) rfl ?_); refine goesL_ (some 10) rfl rfl Tryd.func72 (by kernel_rfl) rfl #[.slice A0 l0.length c0, .int .i64 2] rfl pM ?_; (with_reducible refine (r1_at.calls _ _ l0 2 t503 _ ?side1 ?side2 A4.out).mono ?_); (case side1 => exact pC HR0.out); (case side2 => exact HC0.out); rintro e w' ⟨rfl, ⟨nd, rfl⟩⟩; refine ⟨_, rfl, ?_⟩) | ((with_reducible refine gate_callee (f := 72) rfl ?_); refine goesL_ (some 14) rfl rfl Tryd.func72 (by kernel_rfl) rfl #[.slice A0 l0.length c0, .int .i64 3] rfl pM ?_; (with_reducible refine (r1_at.calls _ _ l0 3 t504 _ ?side1 ?side2 A5.out).mono ?_); (case side1 => exact pC HR0.out); (case side2 => exact HC0.out); rintro e w' ⟨rfl, ⟨nd, rfl⟩⟩; refine ⟨_, rfl, ?_⟩))
 go_ret
 exact ⟨by first | rfl | (simp; done) | (simp [*]; done), by repeat (first | exact Drawn0.refl _ | apply Drawn0.step)⟩
end Go.Proofs.YtflcanpajgpghaaDoor.Pr
end
section
namespace Go.Proofs.YtflcanpajgpghaaDoor.Pr
open Go.RowKit Go.Proofs.YtflcanpajgpghaaDoorW.PrintWords Go.Proofs.YtflcanpajgpghaaDoorW.PrintLast Go.Proofs.YtflcanpajgpghaaDoorW.PrintMore
attribute [local go_sem] max2_int min2_int max_two min_two max_three min_three max_four min_four
mutual
def r1_Round.j0 : Nat → Bool → Int → List Int → Bool → Int → Bool → Option (Int)
 | 0, _, _, _, _, _, _ => none
 | k + 1, x0, x1, x2, x3, x9, x31 => if x31 = true then ((r1_Sign.f x0).bind fun t506 => (some t506)) else (if (wrap64 (x9 + x1)) > 1100 then ((r1_Infinite.f x0).bind fun t507 => (some t507)) else (if (wrap64 ((-1074) - x1)) > (wrap64 (x9 - 53)) then (r1_Round.j1 k x0 x1 x2 x3 (wrap64 ((-1074) - x1))) else (r1_Round.j1 k x0 x1 x2 x3 (wrap64 (x9 - 53)))))
def r1_Round.j1 : Nat → Bool → Int → List Int → Bool → Int → Option (Int)
 | 0, _, _, _, _, _ => none
 | k + 1, x0, x1, x2, x3, x10 => if x10 ≥ 2 then ((r1_Down.f k x2 (wrap64 (x10 - 2))).bind fun bt511 => (if x3 = true then (r1_Round.j2 k x0 (wrap64 (x1 + x10)) bt511.1 true) else (r1_Round.j2 k x0 (wrap64 (x1 + x10)) bt511.1 bt511.2))) else ((r1_Up.f k x2 (wrap64 (2 - x10))).bind fun t515 => (r1_Round.j2 k x0 (wrap64 (x1 + x10)) t515 x3))
def r1_Round.j2 : Nat → Bool → Int → List Int → Bool → Option (Int)
 | 0, _, _, _, _ => none
 | k + 1, x0, x11, x12, x13 => (r1_Small.f x12).bind fun t518 => ((r1_Small.f x12).bind fun t519 => (if (Go.bits .and .u64 t519 3) > 2 then (r1_Round.j3 k x0 x11 (t518 / 4) true) else (if (Go.bits .and .u64 t519 3) = 2 then (if x13 = true then (r1_Round.j3 k x0 x11 (t518 / 4) true) else (r1_Round.j3 k x0 x11 (t518 / 4) ((Int.tmod (t518 / 4) 2) == 1))) else (r1_Round.j3 k x0 x11 (t518 / 4) false))))
def r1_Round.j3 : Nat → Bool → Int → Int → Bool → Option (Int)
 | 0, _, _, _, _ => none
 | k + 1, x0, x11, x16, x90 => if x90 = true then (r1_Round.j4 k x0 x11 (IntKind.u64.wrap (x16 + 1))) else (r1_Round.j4 k x0 x11 x16)
def r1_Round.j4 : Nat → Bool → Int → Int → Option (Int)
 | 0, _, _, _ => none
 | k + 1, x0, x11, x16 => if x16 = 9007199254740992 then (r1_Round.j5 k x0 (wrap64 (x11 + 1)) 4503599627370496) else (r1_Round.j5 k x0 x11 x16)
def r1_Round.j5 : Nat → Bool → Int → Int → Option (Int)
 | 0, _, _, _ => none
 | k + 1, x0, x11, x16 => if x11 > 971 then ((r1_Infinite.f x0).bind fun t520 => (some t520)) else (if x16 < 4503599627370496 then ((r1_Sign.f x0).bind fun t521 => (some (Go.bits .or .u64 t521 x16))) else ((r1_Sign.f x0).bind fun t522 => (some (Go.bits .or .u64 (Go.bits .or .u64 t522 (IntKind.u64.wrap ((IntKind.u64.wrap (wrap64 (x11 + 1075))) * 4503599627370496))) (IntKind.u64.wrap (x16 - 4503599627370496))))))
end
def r1_Round.f (k : Nat) (a0 : Bool) (a1 : Int) (l2 : List Int) (a3 : Bool) : Option (Int) := (r1_Len.f k l2).bind fun t505 => (if t505 = 0 then (if a3 = true then (r1_Round.j0 k a0 a1 l2 a3 t505 (decide ((wrap64 (t505 + a1)) < (-1100)))) else (r1_Round.j0 k a0 a1 l2 a3 t505 true)) else (r1_Round.j0 k a0 a1 l2 a3 t505 (decide ((wrap64 (t505 + a1)) < (-1100)))))
set_option maxHeartbeats 8000000 in
set_option maxRecDepth 100000 in
theorem r1_Round.calls (k : Nat) (a0 : Bool) (a1 : Int) (A2 : Option Addr) (c2 : Nat) (l2 : List Int) (a3 : Bool) (r : Int) (w : World) (hr2 : Kd.C (Kd.int .u64) w A2 l2.length l2) (hc2 : l2.length ≤ c2) (h : r1_Round.f k a0 a1 l2 a3 = some r) :
  Calls Tryd.prog 22 #[.bool a0, .int .i64 a1, .slice A2 l2.length c2, .bool a3] w fun e w' => e = .returned (.int .u64 r) ∧ Below w.heap.size w w' := by
 have HR2 := am hr2
 have HC2 := am hc2
 clear hr2 hc2
 have HB := am (Below.refl w.heap.size w)
 have H : ((r1_Len.f k l2).bind fun t505 => (if t505 = 0 then (if a3 = true then (r1_Round.j0 k a0 a1 l2 a3 t505 (decide ((wrap64 (t505 + a1)) < (-1100)))) else (r1_Round.j0 k a0 a1 l2 a3 t505 true)) else (r1_Round.j0 k a0 a1 l2 a3 t505 (decide ((wrap64 (t505 + a1)) < (-1100)))))) = some r := h
 clear h
 replace H := Option.bind_eq_some_iff.mp H
 obtain ⟨t505, A50, H⟩ := H
 try dsimp only at H
 have A5 := am A50
 clear A50
 have HC6 := am H
 clear H
 go_enter Tryd.func22, Tryd.ntmps22
 go_upto_region 2 with (first | ((with_reducible refine gate_callee (f := 25) rfl ?_); refine goesL_ (some 19) rfl rfl Tryd.func25 (by kernel_rfl) rfl #[.slice A2 l2.length c2] rfl pM ?_; (with_reducible refine (r1_Len.calls k _ _ l2 t505 _ ?side1 ?side2 A5.out).mono ?_); (case side1 => exact pC HR2.out); (case side2 => exact HC2.out); rintro e w' ⟨rfl, ⟨nd, rfl⟩⟩; refine ⟨_, rfl, ?_⟩))
 (try simp only [Act.put, List.setIfInBounds_toArray, List.set_cons_zero, List.set_cons_succ])
 go_cut [31] (fun v31 wc => ∃ (kq : Nat) (x31_5 : Bool), v31 = .bool x31_5 ∧ Aside0 (r1_Round.j0 kq a0 a1 l2 a3 t505 x31_5 = some r) ∧ Aside0 (kq ≤ k) ∧ Aside0 (Below w.heap.size w wc))
 case first =>
  have H := HC6.out
  clear HC6
  by_cases c7 : t505 = 0
  ·rw [if_pos c7] at H
   have c7b0 : (t505 == 0) = true := beq_iff_eq.mpr c7
   have c7b1 : (t505 != 0) = false := bne_eq_false_iff_eq.mpr c7
   clear c7
   (first | rw [c7b0] | (simp only [i64_w, i32_w]; rw [c7b0]) | rw [c7b1] | (simp only [i64_w, i32_w]; rw [c7b1]) | skip)
   by_cases c8 : a3 = true
   ·subst c8
    rw [if_pos rfl] at H
    have H' := am H
    clear H
    go_wp2
    go_meet
    case rel => exact ⟨_, (decide ((wrap64 (t505 + a1)) < (-1100))), (by first | rfl | (simp; done) | (simp [*]; done)), H', ⟨by first | omega | exact Nat.le_refl _⟩, ⟨pB⟩⟩
   ·replace c8 := Bool.eq_false_iff.mpr c8
    subst c8
    rw [if_neg (show ¬ (false = true) by decide)] at H
    have H' := am H
    clear H
    go_wp2
    go_meet
    case rel => exact ⟨_, (true), (by first | rfl | (simp; done) | (simp [*]; done)), H', ⟨by first | omega | exact Nat.le_refl _⟩, ⟨pB⟩⟩
  ·rw [if_neg c7] at H
   have c7b0 : (t505 == 0) = false := beq_eq_false_iff_ne.mpr c7
   have c7b1 : (t505 != 0) = true := bne_iff_ne.mpr c7
   (first | rw [c7b0] | (simp only [i64_w, i32_w]; rw [c7b0]) | rw [c7b1] | (simp only [i64_w, i32_w]; rw [c7b1]) | skip)
   have H' := am H
   clear H
   go_wp2
   go_meet
   case rel => exact ⟨_, (decide ((wrap64 (t505 + a1)) < (-1100))), (by first | rfl | (simp; done) | (simp [*]; done)), H', ⟨by first | omega | exact Nat.le_refl _⟩, ⟨pB⟩⟩
 case rest =>
  clear HC6
  try clear c2
  try clear p2
  try clear p6
  try clear c7
  try clear c7b0
  try clear c7b1
  try clear c8
  obtain ⟨kq, x31_5, rfl, HA, HJ5, HB⟩ := hcut
  cases kq with
  | zero => exact absurd HA.out (by simp [r1_Round.j0])
  | succ kj5 =>
   have H := HA.out
   clear HA
   simp only [r1_Round.j0] at H
   by_cases c9 : x31_5 = true
   ·subst c9
    rw [if_pos rfl] at H
    replace H := Option.bind_eq_some_iff.mp H
    obtain ⟨t506, A100, H⟩ := H
    try dsimp only at H
    have A10 := am A100
    clear A100
    obtain rfl := Option.some.inj H
    go_wp2_with (first | ((with_reducible refine gate_callee (f := 47) rfl ?_); refine goesL_ (some 33) rfl rfl Tryd.func47 (by kernel_rfl) rfl #[.bool a0] rfl pM ?_; (with_reducible refine (r1_Sign.calls a0 t506 _ A10.out).mono ?_); rintro e w' ⟨rfl, ⟨nd, rfl⟩⟩; refine ⟨_, rfl, ?_⟩))
    go_ret
    exact ⟨pE, pB⟩
   ·replace c9 := Bool.eq_false_iff.mpr c9
    subst c9
    rw [if_neg (show ¬ (false = true) by decide)] at H
    by_cases c11 : (wrap64 (t505 + a1)) > 1100
    ·rw [if_pos c11] at H
     have c11b0 : decide (1100 < (wrap64 (t505 + a1))) = true := decide_eq_true c11
     clear c11
     replace H := Option.bind_eq_some_iff.mp H
     obtain ⟨t507, A120, H⟩ := H
     try dsimp only at H
     have A12 := am A120
     clear A120
     obtain rfl := Option.some.inj H
     go_wp2_with (first | ((with_reducible refine gate_callee (f := 21) rfl ?_); refine goesL_ (some 39) rfl rfl Tryd.func21 (by kernel_rfl) rfl #[.bool a0] rfl pM ?_; (with_reducible refine (r1_Infinite.calls a0 t507 _ A12.out).mono ?_); rintro e w' ⟨rfl, ⟨nd, rfl⟩⟩; refine ⟨_, rfl, ?_⟩))
     go_ret
     exact ⟨pE, pB⟩
    ·rw [if_neg c11] at H
     have c11b0 : decide (1100 < (wrap64 (t505 + a1))) = false := decide_eq_false c11
     clear c11
     have HC13 := am H
     clear H
     go_upto_if 45 with (fail)
     go_cut [10] (fun v10 wc => ∃ (kq : Nat) (x10_12 : Int), v10 = .int .i64 x10_12 ∧ Aside0 (r1_Round.j1 kq a0 a1 l2 a3 x10_12 = some r) ∧ Aside0 (kq ≤ kj5) ∧ Aside0 (Below w.heap.size w wc))
     case first =>
      have H := HC13.out
      clear HC13
      by_cases c14 : (wrap64 ((-1074) - a1)) > (wrap64 (t505 - 53))
      ·rw [if_pos c14] at H
       have c14b0 : decide ((wrap64 (t505 - 53)) < (wrap64 ((-1074) - a1))) = true := decide_eq_true c14
       clear c14
       (first | rw [c14b0] | (simp only [i64_w, i32_w]; rw [c14b0]) | rw [c14b1] | (simp only [i64_w, i32_w]; rw [c14b1]) | skip)
       have H' := am H
       clear H
       go_wp2
       go_meet
       case rel => exact ⟨_, (wrap64 ((-1074) - a1)), (by first | rfl | (simp; done) | (simp [*]; done)), H', ⟨by have := HJ5.out; first | omega | exact Nat.le_refl _⟩, ⟨pB⟩⟩
      ·rw [if_neg c14] at H
       have c14b0 : decide ((wrap64 (t505 - 53)) < (wrap64 ((-1074) - a1))) = false := decide_eq_false c14
       clear c14
       (first | rw [c14b0] | (simp only [i64_w, i32_w]; rw [c14b0]) | rw [c14b1] | (simp only [i64_w, i32_w]; rw [c14b1]) | skip)
       have H' := am H
       clear H
       go_wp2
       go_meet
       case rel => exact ⟨_, (wrap64 (t505 - 53)), (by first | rfl | (simp; done) | (simp [*]; done)), H', ⟨by have := HJ5.out; first | omega | exact Nat.le_refl _⟩, ⟨pB⟩⟩
     case rest =>
      clear HC13
      try clear c1
      try clear c2
      try clear p2
      try clear c4
      try clear p6
      try clear c7
      try clear c7b0
      try clear c7b1
      try clear c8
      try clear c9
      try clear c11
      try clear c11b0
      try clear c14
      try clear c14b0
      try clear c14b1
      try clear p2
      try clear p6
      obtain ⟨kq, x10_12, rfl, HA, HJ12, HB⟩ := hcut
      cases kq with
      | zero => exact absurd HA.out (by simp [r1_Round.j1])
      | succ kj12 =>
       have H := HA.out
       clear HA
       simp only [r1_Round.j1] at H
       obtain ⟨y508, hy508⟩ : ∃ y_ : List Int, y_ = (([] : List Int)) := ⟨_, rfl⟩
       replace H : (if x10_12 ≥ 2 then ((r1_Down.f kj12 l2 (wrap64 (x10_12 - 2))).bind fun bt511 => (if a3 = true then (r1_Round.j2 kj12 a0 (wrap64 (a1 + x10_12)) bt511.1 true) else (r1_Round.j2 kj12 a0 (wrap64 (a1 + x10_12)) bt511.1 bt511.2))) else ((r1_Up.f kj12 l2 (wrap64 (2 - x10_12))).bind fun t515 => (r1_Round.j2 kj12 a0 (wrap64 (a1 + x10_12)) t515 a3))) = some r := by first | (rw [hy508]; with_reducible exact H) | (have H2_ := (Option.bind_some _ _).symm.trans H; rw [hy508]; with_reducible exact H2_) | (have H2_ := (Option.bind_some _ _).symm.trans H; with_reducible exact H2_) | with_reducible exact H | (rw [hy508]; exact H) | exact H
       have Ny508 := am hy508
       clear hy508
       have HC15 := am H
       clear H
       go_upto_if 54 with (first | ((with_reducible refine gate_dst (N := 51) rfl ?_); refine Kd.R_lit (Kd.int .u64) _ 22 ?hg (N := 51) ?hd (xs := ([] : List Int)) (inner := []) (ok := fun _ => True) (okp := fun _ => True) ?hr ?hp (fun _ hk => hk) trivial (Below.refl _ _) (Nat.le_refl _) (by simp) ?_; (case hd => rfl); (case hg => rfl); (case hr => first | (go_simp; done) | (go_simp; rfl)); (case hp => exact (Reps.none _ _)); intro v509 w16 ho17 hb hg_ hnew_; clear hg_ hnew_; (first | rw [← Ny508.out] at ho17 | (simp only [Int.reduceToNat] at ho17; rw [← Ny508.out] at ho17)); have HO510 := am (Kd.R_lower ho17 (below_size pB)); replace HB := am (below_step pB hb); clear hb ho17))
       (try simp only [Act.put, List.setIfInBounds_toArray, List.set_cons_zero, List.set_cons_succ])
       go_cut [12, 13] (fun v12 v13 wc => ∃ (kq : Nat) (x12_14 : List Int) (x13_14 : Bool), v13 = .bool x13_14 ∧ Aside0 (r1_Round.j2 kq a0 (wrap64 (a1 + x10_12)) x12_14 x13_14 = some r) ∧ Aside0 (kq ≤ kj12) ∧ Aside0 (Kd.R (Kd.int .u64) 22 wc w.heap.size (fun _ => True) v12 x12_14) ∧ Aside0 (Below w.heap.size w wc))
       case first =>
        have H := HC15.out
        clear HC15
        by_cases c18 : x10_12 ≥ 2
        ·rw [if_pos c18] at H
         have c18b0 : decide (2 ≤ x10_12) = true := decide_eq_true c18
         clear c18
         (first | rw [c18b0] | (simp only [i64_w, i32_w]; rw [c18b0]) | rw [c18b1] | (simp only [i64_w, i32_w]; rw [c18b1]) | skip)
         replace H := Option.bind_eq_some_iff.mp H
         obtain ⟨⟨t511, t512⟩, A190, H⟩ := H
         try dsimp only at H
         have A19 := am A190
         clear A190
         by_cases c20 : a3 = true
         ·subst c20
          rw [if_pos rfl] at H
          have H' := am H
          clear H
          go_wp2_with (first | ((with_reducible refine gate_callee (f := 48) rfl ?_); refine goesL_ (some 59) rfl rfl Tryd.func48 (by kernel_rfl) rfl #[.slice A2 l2.length c2, .int .i64 (wrap64 (x10_12 - 2))] rfl pM ?_; (with_reducible refine (r1_Down.calls kj12 _ _ l2 (wrap64 (x10_12 - 2)) t511 t512 _ ?side1 ?side2 A19.out).mono ?_); (case side1 => exact pC (Kd.C_below HR2.out HB.out)); (case side2 => exact HC2.out); rintro e w21 ⟨v513, rfl, ho0, hb⟩; refine ⟨_, rfl, ?_⟩; have HO514 := am (Kd.R_lower (Kd.R_new' ho0 (Kd.R_lt (pR HO510.out))) (below_size pB)); replace HO510 := am (Kd.R_elder' (pR HO510.out) (Kd.R_base ho0) hb); replace HB := am (below_step pB hb); (try clear hb); (try clear ho0)))
          go_meet
          case rel => exact ⟨_, (t511), (true), (by first | rfl | (simp; done) | (simp [*]; done)), H', ⟨by have := HJ5.out; have := HJ12.out; first | omega | exact Nat.le_refl _⟩, ⟨by (with_reducible repeat (first | apply Kd.R_alloc | apply Kd.R_drewN | apply Kd.R_drew)); exact Kd.R_mono HO514.out (fun _ hk => trivial)⟩, ⟨pB⟩⟩
         ·replace c20 := Bool.eq_false_iff.mpr c20
          subst c20
          rw [if_neg (show ¬ (false = true) by decide)] at H
          have H' := am H
          clear H
          go_wp2_with (first | ((with_reducible refine gate_callee (f := 48) rfl ?_); refine goesL_ (some 59) rfl rfl Tryd.func48 (by kernel_rfl) rfl #[.slice A2 l2.length c2, .int .i64 (wrap64 (x10_12 - 2))] rfl pM ?_; (with_reducible refine (r1_Down.calls kj12 _ _ l2 (wrap64 (x10_12 - 2)) t511 t512 _ ?side1 ?side2 A19.out).mono ?_); (case side1 => exact pC (Kd.C_below HR2.out HB.out)); (case side2 => exact HC2.out); rintro e w22 ⟨v513, rfl, ho0, hb⟩; refine ⟨_, rfl, ?_⟩; have HO514 := am (Kd.R_lower (Kd.R_new' ho0 (Kd.R_lt (pR HO510.out))) (below_size pB)); replace HO510 := am (Kd.R_elder' (pR HO510.out) (Kd.R_base ho0) hb); replace HB := am (below_step pB hb); (try clear hb); (try clear ho0)))
          go_meet
          case rel => exact ⟨_, (t511), (t512), (by first | rfl | (simp; done) | (simp [*]; done)), H', ⟨by have := HJ5.out; have := HJ12.out; first | omega | exact Nat.le_refl _⟩, ⟨by (with_reducible repeat (first | apply Kd.R_alloc | apply Kd.R_drewN | apply Kd.R_drew)); exact Kd.R_mono HO514.out (fun _ hk => trivial)⟩, ⟨pB⟩⟩
        ·rw [if_neg c18] at H
         have c18b0 : decide (2 ≤ x10_12) = false := decide_eq_false c18
         clear c18
         (first | rw [c18b0] | (simp only [i64_w, i32_w]; rw [c18b0]) | rw [c18b1] | (simp only [i64_w, i32_w]; rw [c18b1]) | skip)
         replace H := Option.bind_eq_some_iff.mp H
         obtain ⟨t515, A230, H⟩ := H
         try dsimp only at H
         have A23 := am A230
         clear A230
         have H' := am H
         clear H
         go_wp2_with (first | ((with_reducible refine gate_callee (f := 27) rfl ?_); refine goesL_ (some 70) rfl rfl Tryd.func27 (by kernel_rfl) rfl #[.slice A2 l2.length c2, .int .i64 (wrap64 (2 - x10_12))] rfl pM ?_; (with_reducible refine (r1_Up.calls kj12 _ _ l2 (wrap64 (2 - x10_12)) t515 _ ?side1 ?side2 A23.out).mono ?_); (case side1 => exact pC (Kd.C_below HR2.out HB.out)); (case side2 => exact HC2.out); rintro e w24 ⟨v516, rfl, ho0, hb⟩; refine ⟨_, rfl, ?_⟩; have HO517 := am (Kd.R_lower (Kd.R_new' ho0 (Kd.R_lt (pR HO510.out))) (below_size pB)); replace HO510 := am (Kd.R_elder' (pR HO510.out) (Kd.R_base ho0) hb); replace HB := am (below_step pB hb); (try clear hb); (try clear ho0)))
         go_meet
         case rel => exact ⟨_, (t515), (a3), (by first | rfl | (simp; done) | (simp [*]; done)), H', ⟨by have := HJ5.out; have := HJ12.out; first | omega | exact Nat.le_refl _⟩, ⟨by (with_reducible repeat (first | apply Kd.R_alloc | apply Kd.R_drewN | apply Kd.R_drew)); exact Kd.R_mono HO517.out (fun _ hk => trivial)⟩, ⟨pB⟩⟩
       case rest =>
        clear HC15
        try clear c1
        try clear c2
        try clear p2
        try clear c4
        try clear p6
        try clear c7
        try clear c7b0
        try clear c7b1
        try clear c8
        try clear c9
        try clear c11
        try clear c11b0
        try clear c14
        try clear c14b0
        try clear c14b1
        try clear c18
        try clear c18b0
        try clear c18b1
        try clear c20
        try clear c21
        try clear c22
        try clear p2
        try clear p6
        obtain ⟨kq, x12_14, x13_14, rfl, HA, HJ14, HO_12, HB⟩ := hcut
        cases kq with
        | zero => exact absurd HA.out (by simp [r1_Round.j2])
        | succ kj14 =>
         have H := HA.out
         clear HA
         simp only [r1_Round.j2] at H
         replace H := Option.bind_eq_some_iff.mp H
         obtain ⟨t518, A250, H⟩ := H
         try dsimp only at H
         have A25 := am A250
         clear A250
         replace H := Option.bind_eq_some_iff.mp H
         obtain ⟨t519, A260, H⟩ := H
         try dsimp only at H
         have A26 := am A260
         clear A260
         have HC27 := am H
         clear H
         obtain ⟨Ao28, co28, eo28⟩ := Kd.R_slice HO_12.out
         subst eo28
         go_upto_region 16 with (first | ((with_reducible refine gate_callee (f := 49) rfl ?_); refine goesL_ (some 72) rfl rfl Tryd.func49 (by kernel_rfl) rfl #[.slice Ao28 x12_14.length co28] rfl pM ?_; (with_reducible refine (r1_Small.calls _ _ x12_14 t518 _ ?side1 ?side2 A25.out).mono ?_); (case side1 => repeat (first | exact (Kd.R_reads' HO_12.out).2.2 | (with_reducible refine Kd.C_alloc ?_ _) | (with_reducible refine Kd.C_drewN ?_ _) | (with_reducible refine Kd.C_drew ?_))); (case side2 => exact (Kd.R_reads' HO_12.out).2.1); rintro e w' ⟨rfl, ⟨nd, rfl⟩⟩; refine ⟨_, rfl, ?_⟩) | ((with_reducible refine gate_callee (f := 49) rfl ?_); refine goesL_ (some 75) rfl rfl Tryd.func49 (by kernel_rfl) rfl #[.slice Ao28 x12_14.length co28] rfl pM ?_; (with_reducible refine (r1_Small.calls _ _ x12_14 t519 _ ?side1 ?side2 A26.out).mono ?_); (case side1 => repeat (first | exact (Kd.R_reads' HO_12.out).2.2 | (with_reducible refine Kd.C_alloc ?_ _) | (with_reducible refine Kd.C_drewN ?_ _) | (with_reducible refine Kd.C_drew ?_))); (case side2 => exact (Kd.R_reads' HO_12.out).2.1); rintro e w' ⟨rfl, ⟨nd, rfl⟩⟩; refine ⟨_, rfl, ?_⟩))
         (try simp only [Act.put, List.setIfInBounds_toArray, List.set_cons_zero, List.set_cons_succ])
         go_cut [90] (fun v90 wc => ∃ (kq : Nat) (x90_26 : Bool), v90 = .bool x90_26 ∧ Aside0 (r1_Round.j3 kq a0 (wrap64 (a1 + x10_12)) (t518 / 4) x90_26 = some r) ∧ Aside0 (kq ≤ kj14) ∧ Aside0 (Below w.heap.size w wc))
         case first =>
          have H := HC27.out
          clear HC27
          by_cases c29 : (Go.bits .and .u64 t519 3) > 2
          ·rw [if_pos c29] at H
           have c29b0 : decide (2 < (Go.bits .and .u64 t519 3)) = true := decide_eq_true c29
           clear c29
           (first | rw [c29b0] | (simp only [i64_w, i32_w]; rw [c29b0]) | rw [c29b1] | (simp only [i64_w, i32_w]; rw [c29b1]) | skip)
           have H' := am H
           clear H
           go_wp2
           go_meet
           case rel => exact ⟨_, (true), (by first | rfl | (simp; done) | (simp [*]; done)), H', ⟨by have := HJ5.out; have := HJ12.out; have := HJ14.out; first | omega | exact Nat.le_refl _⟩, ⟨pB⟩⟩
          ·rw [if_neg c29] at H
           have c29b0 : decide (2 < (Go.bits .and .u64 t519 3)) = false := decide_eq_false c29
           clear c29
           (first | rw [c29b0] | (simp only [i64_w, i32_w]; rw [c29b0]) | rw [c29b1] | (simp only [i64_w, i32_w]; rw [c29b1]) | skip)
           by_cases c30 : (Go.bits .and .u64 t519 3) = 2
           ·rw [if_pos c30] at H
            have c30b0 : ((Go.bits .and .u64 t519 3) == 2) = true := beq_iff_eq.mpr c30
            have c30b1 : ((Go.bits .and .u64 t519 3) != 2) = false := bne_eq_false_iff_eq.mpr c30
            clear c30
            by_cases c31 : x13_14 = true
            ·subst c31
             rw [if_pos rfl] at H
             have H' := am H
             clear H
             go_wp2
             go_meet
             case rel => exact ⟨_, (true), (by first | rfl | (simp; done) | (simp [*]; done)), H', ⟨by have := HJ5.out; have := HJ12.out; have := HJ14.out; first | omega | exact Nat.le_refl _⟩, ⟨pB⟩⟩
            ·replace c31 := Bool.eq_false_iff.mpr c31
             subst c31
             rw [if_neg (show ¬ (false = true) by decide)] at H
             have H' := am H
             clear H
             go_wp2
             go_meet
             case rel => exact ⟨_, (((Int.tmod (t518 / 4) 2) == 1)), (by first | rfl | (simp; done) | (simp [*]; done)), H', ⟨by have := HJ5.out; have := HJ12.out; have := HJ14.out; first | omega | exact Nat.le_refl _⟩, ⟨pB⟩⟩
           ·rw [if_neg c30] at H
            have c30b0 : ((Go.bits .and .u64 t519 3) == 2) = false := beq_eq_false_iff_ne.mpr c30
            have c30b1 : ((Go.bits .and .u64 t519 3) != 2) = true := bne_iff_ne.mpr c30
            have H' := am H
            clear H
            go_wp2
            go_meet
            case rel => exact ⟨_, (false), (by first | rfl | (simp; done) | (simp [*]; done)), H', ⟨by have := HJ5.out; have := HJ12.out; have := HJ14.out; first | omega | exact Nat.le_refl _⟩, ⟨pB⟩⟩
         case rest =>
          clear HC27
          try clear c1
          try clear c2
          try clear p2
          try clear c3
          try clear c4
          try clear p6
          try clear c7
          try clear c7b0
          try clear c7b1
          try clear c8
          try clear c9
          try clear c11
          try clear c11b0
          try clear c14
          try clear c14b0
          try clear c14b1
          try clear c18
          try clear c18b0
          try clear c18b1
          try clear c20
          try clear c21
          try clear c22
          try clear c25
          try clear c27
          try clear c29
          try clear c29b0
          try clear c29b1
          try clear c30
          try clear c30b0
          try clear c30b1
          try clear c31
          try clear p2
          try clear p6
          obtain ⟨kq, x90_26, rfl, HA, HJ26, HB⟩ := hcut
          cases kq with
          | zero => exact absurd HA.out (by simp [r1_Round.j3])
          | succ kj26 =>
           have H := HA.out
           clear HA
           simp only [r1_Round.j3] at H
           have HC32 := am H
           clear H
           go_upto_if 90 with (fail)
           go_cut [16] (fun v16 wc => ∃ (kq : Nat) (x16_31 : Int), v16 = .int .u64 x16_31 ∧ Aside0 (r1_Round.j4 kq a0 (wrap64 (a1 + x10_12)) x16_31 = some r) ∧ Aside0 (kq ≤ kj26) ∧ Aside0 (Below w.heap.size w wc))
           case first =>
            have H := HC32.out
            clear HC32
            by_cases c33 : x90_26 = true
            ·subst c33
             rw [if_pos rfl] at H
             have H' := am H
             clear H
             go_wp2
             go_meet
             case rel => exact ⟨_, (IntKind.u64.wrap ((t518 / 4) + 1)), (by first | rfl | (simp; done) | (simp [*]; done)), H', ⟨by have := HJ5.out; have := HJ12.out; have := HJ14.out; have := HJ26.out; first | omega | exact Nat.le_refl _⟩, ⟨pB⟩⟩
            ·replace c33 := Bool.eq_false_iff.mpr c33
             subst c33
             rw [if_neg (show ¬ (false = true) by decide)] at H
             have H' := am H
             clear H
             go_wp2
             go_meet
             case rel => exact ⟨_, ((t518 / 4)), (by first | rfl | (simp; done) | (simp [*]; done)), H', ⟨by have := HJ5.out; have := HJ12.out; have := HJ14.out; have := HJ26.out; first | omega | exact Nat.le_refl _⟩, ⟨pB⟩⟩
           case rest =>
            clear HC32
            try clear c1
            try clear c2
            try clear p2
            try clear c3
            try clear c4
            try clear p6
            try clear c7
            try clear c7b0
            try clear c7b1
            try clear c8
            try clear c9
            try clear c11
            try clear c11b0
            try clear c14
            try clear c14b0
            try clear c14b1
            try clear c18
            try clear c18b0
            try clear c18b1
            try clear c20
            try clear c21
            try clear c22
            try clear c25
            try clear c27
            try clear c29
            try clear c29b0
            try clear c29b1
            try clear c30
            try clear c30b0
            try clear c30b1
            try clear c31
            try clear c33
            try clear p2
            try clear p6
            obtain ⟨kq, x16_31, rfl, HA, HJ31, HB⟩ := hcut
            cases kq with
            | zero => exact absurd HA.out (by simp [r1_Round.j4])
            | succ kj31 =>
             have H := HA.out
             clear HA
             simp only [r1_Round.j4] at H
             have HC34 := am H
             clear H
             go_upto_if 94 with (fail)
             go_cut [11, 16] (fun v11 v16 wc => ∃ (kq : Nat) (x11_33 : Int) (x16_33 : Int), v11 = .int .i64 x11_33 ∧ v16 = .int .u64 x16_33 ∧ Aside0 (r1_Round.j5 kq a0 x11_33 x16_33 = some r) ∧ Aside0 (kq ≤ kj31) ∧ Aside0 (Below w.heap.size w wc))
             case first =>
              have H := HC34.out
              clear HC34
              by_cases c35 : x16_31 = 9007199254740992
              ·rw [if_pos c35] at H
               have c35b0 : (x16_31 == 9007199254740992) = true := beq_iff_eq.mpr c35
               have c35b1 : (x16_31 != 9007199254740992) = false := bne_eq_false_iff_eq.mpr c35
               clear c35
               (first | rw [c35b0] | (simp only [i64_w, i32_w]; rw [c35b0]) | rw [c35b1] | (simp only [i64_w, i32_w]; rw [c35b1]) | skip)
               have H' := am H
               clear H
               go_wp2
               go_meet
               case rel => exact ⟨_, (wrap64 ((wrap64 (a1 + x10_12)) + 1)), (4503599627370496), (by first | rfl | (simp; done) | (simp [*]; done)), (by first | rfl | (simp; done) | (simp [*]; done)), H', ⟨by have := HJ5.out; have := HJ12.out; have := HJ14.out; have := HJ26.out; have := HJ31.out; first | omega | exact Nat.le_refl _⟩, ⟨pB⟩⟩
              ·rw [if_neg c35] at H
               have c35b0 : (x16_31 == 9007199254740992) = false := beq_eq_false_iff_ne.mpr c35
               have c35b1 : (x16_31 != 9007199254740992) = true := bne_iff_ne.mpr c35
               (first | rw [c35b0] | (simp only [i64_w, i32_w]; rw [c35b0]) | rw [c35b1] | (simp only [i64_w, i32_w]; rw [c35b1]) | skip)
               have H' := am H
               clear H
               go_wp2
               go_meet
               case rel => exact ⟨_, ((wrap64 (a1 + x10_12))), (x16_31), (by first | rfl | (simp; done) | (simp [*]; done)), (by first | rfl | (simp; done) | (simp [*]; done)), H', ⟨by have := HJ5.out; have := HJ12.out; have := HJ14.out; have := HJ26.out; have := HJ31.out; first | omega | exact Nat.le_refl _⟩, ⟨pB⟩⟩
             case rest =>
              clear HC34
              try clear c1
              try clear c2
              try clear p2
              try clear c3
              try clear c4
              try clear p6
              try clear c7
              try clear c7b0
              try clear c7b1
              try clear c8
              try clear c9
              try clear c11
              try clear c11b0
              try clear c14
              try clear c14b0
              try clear c14b1
              try clear c18
              try clear c18b0
              try clear c18b1
              try clear c20
              try clear c21
              try clear c22
              try clear c25
              try clear c27
              try clear c29
              try clear c29b0
              try clear c29b1
              try clear c30
              try clear c30b0
              try clear c30b1
              try clear c31
              try clear c33
              try clear c35
              try clear c35b0
              try clear c35b1
              try clear p2
              try clear p6
              obtain ⟨kq, x11_33, x16_33, rfl, rfl, HA, HJ33, HB⟩ := hcut
              cases kq with
              | zero => exact absurd HA.out (by simp [r1_Round.j5])
              | succ kj33 =>
               have H := HA.out
               clear HA
               simp only [r1_Round.j5] at H
               by_cases c36 : x11_33 > 971
               ·rw [if_pos c36] at H
                have c36b0 : decide (971 < x11_33) = true := decide_eq_true c36
                clear c36
                replace H := Option.bind_eq_some_iff.mp H
                obtain ⟨t520, A370, H⟩ := H
                try dsimp only at H
                have A37 := am A370
                clear A370
                obtain rfl := Option.some.inj H
                go_wp2_with (first | ((with_reducible refine gate_callee (f := 21) rfl ?_); refine goesL_ (some 100) rfl rfl Tryd.func21 (by kernel_rfl) rfl #[.bool a0] rfl pM ?_; (with_reducible refine (r1_Infinite.calls a0 t520 _ A37.out).mono ?_); rintro e w' ⟨rfl, ⟨nd, rfl⟩⟩; refine ⟨_, rfl, ?_⟩))
                go_ret
                exact ⟨pE, pB⟩
               ·rw [if_neg c36] at H
                have c36b0 : decide (971 < x11_33) = false := decide_eq_false c36
                clear c36
                by_cases c38 : x16_33 < 4503599627370496
                ·rw [if_pos c38] at H
                 have c38b0 : decide (x16_33 < 4503599627370496) = true := decide_eq_true c38
                 clear c38
                 replace H := Option.bind_eq_some_iff.mp H
                 obtain ⟨t521, A390, H⟩ := H
                 try dsimp only at H
                 have A39 := am A390
                 clear A390
                 obtain rfl := Option.some.inj H
                 go_wp2_with (first | ((with_reducible refine gate_callee (f := 47) rfl ?_); refine goesL_ (some 104) rfl rfl Tryd.func47 (by kernel_rfl) rfl #[.bool a0] rfl pM ?_; (with_reducible refine (r1_Sign.calls a0 t521 _ A39.out).mono ?_); rintro e w' ⟨rfl, ⟨nd, rfl⟩⟩; refine ⟨_, rfl, ?_⟩))
                 go_ret
                 exact ⟨pE, pB⟩
                ·rw [if_neg c38] at H
                 have c38b0 : decide (x16_33 < 4503599627370496) = false := decide_eq_false c38
                 clear c38
                 replace H := Option.bind_eq_some_iff.mp H
                 obtain ⟨t522, A400, H⟩ := H
                 try dsimp only at H
                 have A40 := am A400
                 clear A400
                 obtain rfl := Option.some.inj H
                 go_wp2_with (first | ((with_reducible refine gate_callee (f := 47) rfl ?_); refine goesL_ (some 108) rfl rfl Tryd.func47 (by kernel_rfl) rfl #[.bool a0] rfl pM ?_; (with_reducible refine (r1_Sign.calls a0 t522 _ A40.out).mono ?_); rintro e w' ⟨rfl, ⟨nd, rfl⟩⟩; refine ⟨_, rfl, ?_⟩))
                 go_ret
                 exact ⟨pE, pB⟩
end Go.Proofs.YtflcanpajgpghaaDoor.Pr
end
section
namespace Go.Proofs.YtflcanpajgpghaaDoor.Pr
open Go.RowKit Go.Proofs.YtflcanpajgpghaaDoorW.PrintWords Go.Proofs.YtflcanpajgpghaaDoorW.PrintLast Go.Proofs.YtflcanpajgpghaaDoorW.PrintMore
attribute [local go_sem] max2_int min2_int max_two min_two max_three min_three max_four min_four
def r5_Ten.l0 : Nat → Int → List Int → List Int → Option (List Int)
 | 0, _, _, _ => none
 | k + 1, x0, x3, x4 => if x0 > 0 then (if (Int.tmod x0 2) = 1 then ((r1_Product.f k x3 x4).bind fun t529 => ((r1_Product.f k x4 x4).bind fun t532 => (r5_Ten.l0 k (wrap64 (Int.tdiv x0 2)) t529 t532))) else ((r1_Product.f k x4 x4).bind fun t535 => (r5_Ten.l0 k (wrap64 (Int.tdiv x0 2)) x3 t535))) else (some x3)
def r5_Ten.f (k : Nat) (a0 : Int) : Option (List Int) := r5_Ten.l0 k a0 (([1] : List Int)) (([10] : List Int))
set_option maxHeartbeats 8000000 in
set_option maxRecDepth 100000 in
theorem r5_Ten.calls (k : Nat) (a0 : Int) (r : List Int) (w : World) (h : r5_Ten.f k a0 = some r) :
  Calls Tryd.prog 24 #[.int .i64 a0] w fun e w' => ∃ v0_ : Value, e = .returned (v0_) ∧ Kd.R (Kd.int .u64) 22 w' w.heap.size (fun _ => True) v0_ r ∧ Below w.heap.size w w' := by
 have HB := am (Below.refl w.heap.size w)
 have H : (r5_Ten.l0 k a0 (([1] : List Int)) (([10] : List Int))) = some r := h
 clear h
 obtain ⟨y523, hy523⟩ : ∃ y_ : List Int, y_ = (([1] : List Int)) := ⟨_, rfl⟩
 replace H : (r5_Ten.l0 k a0 y523 (([10] : List Int))) = some r := by first | (rw [hy523]; with_reducible exact H) | (have H2_ := (Option.bind_some _ _).symm.trans H; rw [hy523]; with_reducible exact H2_) | (have H2_ := (Option.bind_some _ _).symm.trans H; with_reducible exact H2_) | with_reducible exact H | (rw [hy523]; exact H) | exact H
 have Ny523 := am hy523
 clear hy523
 obtain ⟨y526, hy526⟩ : ∃ y_ : List Int, y_ = (([10] : List Int)) := ⟨_, rfl⟩
 replace H : (r5_Ten.l0 k a0 y523 y526) = some r := by first | (rw [hy526]; with_reducible exact H) | (have H2_ := (Option.bind_some _ _).symm.trans H; rw [hy526]; with_reducible exact H2_) | (have H2_ := (Option.bind_some _ _).symm.trans H; with_reducible exact H2_) | with_reducible exact H | (rw [hy526]; exact H) | exact H
 have Ny526 := am hy526
 clear hy526
 have H' := am H
 clear H
 go_enter Tryd.func24, Tryd.ntmps24
 go_wp2_with (first | ((with_reducible refine gate_dst (N := 5) rfl ?_); refine Kd.R_lit (Kd.int .u64) _ 22 ?hg (N := 5) ?hd (xs := ([1] : List Int)) (inner := [.int .u64 1]) (ok := fun _ => True) (okp := fun _ => True) ?hr ?hp (fun _ hk => hk) trivial (Below.refl _ _) (Nat.le_refl _) (by simp) ?_; (case hd => rfl); (case hg => rfl); (case hr => first | (go_simp; done) | (go_simp; rfl)); (case hp => exact (Reps.one (show Kd.M (Kd.int .u64) _ _ _ 1 [.int .u64 1] from rfl) (Reps.none _ _))); intro v524 w2 ho3 hb hg_ hnew_; clear hg_ hnew_; (first | rw [← Ny523.out] at ho3 | (simp only [Int.reduceToNat] at ho3; rw [← Ny523.out] at ho3)); have HO525 := am (Kd.R_lower ho3 (below_size pB)); replace HB := am (below_step pB hb); clear hb ho3) | ((with_reducible refine gate_dst (N := 6) rfl ?_); refine Kd.R_lit (Kd.int .u64) _ 22 ?hg (N := 6) ?hd (xs := ([10] : List Int)) (inner := [.int .u64 10]) (ok := fun _ => True) (okp := fun _ => True) ?hr ?hp (fun _ hk => hk) trivial (Below.refl _ _) (Nat.le_refl _) (by simp) ?_; (case hd => rfl); (case hg => rfl); (case hr => first | (go_simp; done) | (go_simp; rfl)); (case hp => exact (Reps.one (show Kd.M (Kd.int .u64) _ _ _ 10 [.int .u64 10] from rfl) (Reps.none _ _))); intro v527 w4 ho5 hb hg_ hnew_; clear hg_ hnew_; (first | rw [← Ny526.out] at ho5 | (simp only [Int.reduceToNat] at ho5; rw [← Ny526.out] at ho5)); have HO528 := am (Kd.R_lower (Kd.R_new' ho5 (Kd.R_lt (pR HO525.out))) (below_size pB)); replace HO525 := am (Kd.R_elder' (pR HO525.out) (Kd.R_base ho5) hb); replace HB := am (below_step pB hb); clear hb ho5))
 go_loopg [0, 3, 4] k (fun kq v0 v3 v4 w' => ∃ (x0_1 : Int) (x3_1 : List Int) (x4_1 : List Int), v0 = .int .i64 x0_1 ∧ Aside0 (r5_Ten.l0 kq x0_1 x3_1 x4_1 = some r) ∧ Aside0 (kq ≤ k) ∧ Aside0 (Kd.R (Kd.int .u64) 22 w' w.heap.size (fun k_ => some k_ ≠ (v4 : Value).ownBlock) v3 x3_1) ∧ Aside0 (Kd.R (Kd.int .u64) 22 w' w.heap.size (fun k_ => some k_ ≠ (v3 : Value).ownBlock) v4 x4_1) ∧ Aside0 (Below w.heap.size w w'))
 case atStart => exact ⟨(a0), (y523), (y526), (by first | rfl | (simp; done) | (simp [*]; done)), H', ⟨Nat.le_refl _⟩, ⟨by (with_reducible repeat (first | apply Kd.R_alloc | apply Kd.R_drewN | apply Kd.R_drew)); exact Kd.R_mono HO525.out (fun _ hk => hk.2)⟩, ⟨by (with_reducible repeat (first | apply Kd.R_alloc | apply Kd.R_drewN | apply Kd.R_drew)); exact Kd.R_mono HO528.out (fun _ hk => hk.2)⟩, ⟨pB⟩⟩
 case round =>
  clear H'
  try clear c2
  try clear p2
  obtain ⟨x0_1, x3_1, x4_1, rfl, HA, HK1, HO_3, HO_4, HB⟩ := hrel
  cases gk with
  | zero => exact absurd HA.out (by simp [r5_Ten.l0])
  | succ k1 =>
   have H := HA.out
   clear HA
   simp only [r5_Ten.l0] at H
   by_cases c6 : x0_1 > 0
   ·rw [if_pos c6] at H
    have c6b0 : decide (0 < x0_1) = true := decide_eq_true c6
    clear c6
    by_cases c7 : (Int.tmod x0_1 2) = 1
    ·rw [if_pos c7] at H
     have c7b0 : ((Int.tmod x0_1 2) == 1) = true := beq_iff_eq.mpr c7
     have c7b1 : ((Int.tmod x0_1 2) != 1) = false := bne_eq_false_iff_eq.mpr c7
     clear c7
     replace H := Option.bind_eq_some_iff.mp H
     obtain ⟨t529, A80, H⟩ := H
     try dsimp only at H
     have A8 := am A80
     clear A80
     replace H := Option.bind_eq_some_iff.mp H
     obtain ⟨t532, A90, H⟩ := H
     try dsimp only at H
     have A9 := am A90
     clear A90
     have H' := am H
     clear H
     obtain ⟨Ao10, co10, eo10⟩ := Kd.R_slice HO_3.out
     subst eo10
     obtain ⟨Ao11, co11, eo11⟩ := Kd.R_slice HO_4.out
     subst eo11
     go_wp2_with (first | ((with_reducible refine gate_callee (f := 23) rfl ?_); refine goesL_ (some 14) rfl rfl Tryd.func23 (by kernel_rfl) rfl #[.slice Ao10 x3_1.length co10, .slice Ao11 x4_1.length co11] rfl pM ?_; (with_reducible refine (r1_Product.calls k1 _ _ x3_1 _ _ x4_1 t529 _ ?side1 ?side2 ?side3 ?side4 A8.out).mono ?_); (case side1 => repeat (first | exact (Kd.R_reads' HO_3.out).2.2 | (with_reducible refine Kd.C_alloc ?_ _) | (with_reducible refine Kd.C_drewN ?_ _) | (with_reducible refine Kd.C_drew ?_))); (case side2 => exact (Kd.R_reads' HO_3.out).2.1); (case side3 => repeat (first | exact (Kd.R_reads' HO_4.out).2.2 | (with_reducible refine Kd.C_alloc ?_ _) | (with_reducible refine Kd.C_drewN ?_ _) | (with_reducible refine Kd.C_drew ?_))); (case side4 => exact (Kd.R_reads' HO_4.out).2.1); rintro e w12 ⟨v530, rfl, ho0, hb⟩; refine ⟨_, rfl, ?_⟩; have HO531 := am (Kd.R_lower (Kd.R_new' (Kd.R_new' ho0 (Kd.R_lt (pR HO_3.out))) (Kd.R_lt (pR HO_4.out))) (below_size pB)); replace HO_3 := am (Kd.R_elder' (pR HO_3.out) (Kd.R_base ho0) hb); replace HO_4 := am (Kd.R_elder' (pR HO_4.out) (Kd.R_base ho0) hb); replace HB := am (below_step pB hb); (try clear hb); (try clear ho0)) | ((with_reducible refine gate_callee (f := 23) rfl ?_); refine goesL_ (some 17) rfl rfl Tryd.func23 (by kernel_rfl) rfl #[.slice Ao11 x4_1.length co11, .slice Ao11 x4_1.length co11] rfl pM ?_; (with_reducible refine (r1_Product.calls k1 _ _ x4_1 _ _ x4_1 t532 _ ?side1 ?side2 ?side3 ?side4 A9.out).mono ?_); (case side1 => repeat (first | exact (Kd.R_reads' HO_4.out).2.2 | (with_reducible refine Kd.C_alloc ?_ _) | (with_reducible refine Kd.C_drewN ?_ _) | (with_reducible refine Kd.C_drew ?_))); (case side2 => exact (Kd.R_reads' HO_4.out).2.1); (case side3 => repeat (first | exact (Kd.R_reads' HO_4.out).2.2 | (with_reducible refine Kd.C_alloc ?_ _) | (with_reducible refine Kd.C_drewN ?_ _) | (with_reducible refine Kd.C_drew ?_))); (case side4 => exact (Kd.R_reads' HO_4.out).2.1); rintro e w13 ⟨v533, rfl, ho0, hb⟩; refine ⟨_, rfl, ?_⟩; have HO534 := am (Kd.R_lower (Kd.R_new' (Kd.R_new' (Kd.R_new' ho0 (Kd.R_lt (pR HO_3.out))) (Kd.R_lt (pR HO_4.out))) (Kd.R_lt (pR HO531.out))) (below_size pB)); replace HO_3 := am (Kd.R_elder' (pR HO_3.out) (Kd.R_base ho0) hb); replace HO_4 := am (Kd.R_elder' (pR HO_4.out) (Kd.R_base ho0) hb); replace HO531 := am (Kd.R_elder' (pR HO531.out) (Kd.R_base ho0) hb); replace HB := am (below_step pB hb); (try clear hb); (try clear ho0)))
     go_roundg k1
     case measure => have := HK1.out; omega
     case rel => exact ⟨(wrap64 (Int.tdiv x0_1 2)), (t529), (t532), (by first | rfl | (simp; done) | (simp [*]; done)), H', ⟨by have := HK1.out; omega⟩, ⟨by (with_reducible repeat (first | apply Kd.R_alloc | apply Kd.R_drewN | apply Kd.R_drew)); exact Kd.R_mono HO531.out (fun _ hk => hk.2)⟩, ⟨by (with_reducible repeat (first | apply Kd.R_alloc | apply Kd.R_drewN | apply Kd.R_drew)); exact Kd.R_mono HO534.out (fun _ hk => hk.2)⟩, ⟨pB⟩⟩
    ·rw [if_neg c7] at H
     have c7b0 : ((Int.tmod x0_1 2) == 1) = false := beq_eq_false_iff_ne.mpr c7
     have c7b1 : ((Int.tmod x0_1 2) != 1) = true := bne_iff_ne.mpr c7
     replace H := Option.bind_eq_some_iff.mp H
     obtain ⟨t535, A140, H⟩ := H
     try dsimp only at H
     have A14 := am A140
     clear A140
     have H' := am H
     clear H
     obtain ⟨Ao15, co15, eo15⟩ := Kd.R_slice HO_4.out
     subst eo15
     go_wp2_with (first | ((with_reducible refine gate_callee (f := 23) rfl ?_); refine goesL_ (some 17) rfl rfl Tryd.func23 (by kernel_rfl) rfl #[.slice Ao15 x4_1.length co15, .slice Ao15 x4_1.length co15] rfl pM ?_; (with_reducible refine (r1_Product.calls k1 _ _ x4_1 _ _ x4_1 t535 _ ?side1 ?side2 ?side3 ?side4 A14.out).mono ?_); (case side1 => repeat (first | exact (Kd.R_reads' HO_4.out).2.2 | (with_reducible refine Kd.C_alloc ?_ _) | (with_reducible refine Kd.C_drewN ?_ _) | (with_reducible refine Kd.C_drew ?_))); (case side2 => exact (Kd.R_reads' HO_4.out).2.1); (case side3 => repeat (first | exact (Kd.R_reads' HO_4.out).2.2 | (with_reducible refine Kd.C_alloc ?_ _) | (with_reducible refine Kd.C_drewN ?_ _) | (with_reducible refine Kd.C_drew ?_))); (case side4 => exact (Kd.R_reads' HO_4.out).2.1); rintro e w16 ⟨v536, rfl, ho0, hb⟩; refine ⟨_, rfl, ?_⟩; have HO537 := am (Kd.R_lower (Kd.R_new' (Kd.R_new' ho0 (Kd.R_lt (pR HO_3.out))) (Kd.R_lt (pR HO_4.out))) (below_size pB)); replace HO_3 := am (Kd.R_elder' (pR HO_3.out) (Kd.R_base ho0) hb); replace HO_4 := am (Kd.R_elder' (pR HO_4.out) (Kd.R_base ho0) hb); replace HB := am (below_step pB hb); (try clear hb); (try clear ho0)))
     go_roundg k1
     case measure => have := HK1.out; omega
     case rel => exact ⟨(wrap64 (Int.tdiv x0_1 2)), (x3_1), (t535), (by first | rfl | (simp; done) | (simp [*]; done)), H', ⟨by have := HK1.out; omega⟩, ⟨by (with_reducible repeat (first | apply Kd.R_alloc | apply Kd.R_drewN | apply Kd.R_drew)); exact Kd.R_mono HO_3.out (fun _ hk => hk.2)⟩, ⟨by (with_reducible repeat (first | apply Kd.R_alloc | apply Kd.R_drewN | apply Kd.R_drew)); exact Kd.R_mono HO537.out (fun _ hk => hk.1.2)⟩, ⟨pB⟩⟩
   ·rw [if_neg c6] at H
    have c6b0 : decide (0 < x0_1) = false := decide_eq_false c6
    clear c6
    obtain rfl := Option.some.inj H
    go_wp2
    go_ret
    exact ⟨_, pE, by (with_reducible repeat (first | apply Kd.R_alloc | apply Kd.R_drewN | apply Kd.R_drew)); exact Kd.R_mono HO_3.out (fun _ hk => trivial), pB⟩
def r1_Cmp.l0 : Nat → List Int → List Int → Int → Option (Int)
 | 0, _, _, _ => none
 | k + 1, x0, x1, x5 => if x5 ≥ 0 then ((r1_at.f x0 x5).bind fun t539 => ((r1_at.f x1 x5).bind fun t540 => (if t539 < t540 then (some (-1)) else ((r1_at.f x0 x5).bind fun t541 => ((r1_at.f x1 x5).bind fun t542 => (if t541 > t542 then (some 1) else (r1_Cmp.l0 k x0 x1 (wrap64 (x5 - 1))))))))) else (some 0)
def r1_Cmp.f (k : Nat) (l0 : List Int) (l1 : List Int) : Option (Int) := (r1_most.f l0 l1).bind fun t538 => (r1_Cmp.l0 k l0 l1 (wrap64 (t538 - 1)))
set_option maxHeartbeats 8000000 in
set_option maxRecDepth 100000 in
theorem r1_Cmp.calls (k : Nat) (A0 : Option Addr) (c0 : Nat) (l0 : List Int) (A1 : Option Addr) (c1 : Nat) (l1 : List Int) (r : Int) (w : World) (hr0 : Kd.C (Kd.int .u64) w A0 l0.length l0) (hc0 : l0.length ≤ c0) (hr1 : Kd.C (Kd.int .u64) w A1 l1.length l1) (hc1 : l1.length ≤ c1) (h : r1_Cmp.f k l0 l1 = some r) :
  Calls Tryd.prog 52 #[.slice A0 l0.length c0, .slice A1 l1.length c1] w fun e w' => e = .returned (.int .i64 r) ∧ Drawn0 w w' := by
 have HR0 := am hr0
 have HC0 := am hc0
 clear hr0 hc0
 have HR1 := am hr1
 have HC1 := am hc1
 clear hr1 hc1
 have H : ((r1_most.f l0 l1).bind fun t538 => (r1_Cmp.l0 k l0 l1 (wrap64 (t538 - 1)))) = some r := h
 clear h
 replace H := Option.bind_eq_some_iff.mp H
 obtain ⟨t538, A30, H⟩ := H
 try dsimp only at H
 have A3 := am A30
 clear A30
 have H' := am H
 clear H
 go_enter Tryd.func52, Tryd.ntmps52
 go_wp2_with (first | ((with_reducible refine gate_callee (f := 71) rfl ?_); refine goesL_ (some 8) rfl rfl Tryd.func71 (by kernel_rfl) rfl #[.slice A0 l0.length c0, .slice A1 l1.length c1] rfl pM ?_; (with_reducible refine (r1_most.calls _ _ l0 _ _ l1 t538 _ ?side1 ?side2 ?side3 ?side4 A3.out).mono ?_); (case side1 => exact pC HR0.out); (case side2 => exact HC0.out); (case side3 => exact pC HR1.out); (case side4 => exact HC1.out); rintro e w' ⟨rfl, ⟨nd, rfl⟩⟩; refine ⟨_, rfl, ?_⟩))
 go_loopg [5] k (fun kq v5 w' => ∃ (x5_1 : Int), v5 = .int .i64 x5_1 ∧ Aside0 (r1_Cmp.l0 kq l0 l1 x5_1 = some r) ∧ Aside0 (kq ≤ k) ∧ Drawn0 w w')
 case atStart => exact ⟨(wrap64 (t538 - 1)), (by first | rfl | (simp; done) | (simp [*]; done)), H', ⟨Nat.le_refl _⟩, by repeat (first | exact Drawn0.refl _ | apply Drawn0.step)⟩
 case round =>
  clear H'
  try clear c1
  try clear p2
  obtain ⟨x5_1, rfl, HA, HK1, ⟨m1, rfl⟩⟩ := hrel
  cases gk with
  | zero => exact absurd HA.out (by simp [r1_Cmp.l0])
  | succ k1 =>
   have H := HA.out
   clear HA
   simp only [r1_Cmp.l0] at H
   by_cases c4 : x5_1 ≥ 0
   ·rw [if_pos c4] at H
    have c4b0 : decide (0 ≤ x5_1) = true := decide_eq_true c4
    clear c4
    replace H := Option.bind_eq_some_iff.mp H
    obtain ⟨t539, A50, H⟩ := H
    try dsimp only at H
    have A5 := am A50
    clear A50
    replace H := Option.bind_eq_some_iff.mp H
    obtain ⟨t540, A60, H⟩ := H
    try dsimp only at H
    have A6 := am A60
    clear A60
    by_cases c7 : t539 < t540
    ·rw [if_pos c7] at H
     have c7b0 : decide (t539 < t540) = true := decide_eq_true c7
     clear c7
     obtain rfl := Option.some.inj H
     go_wp2_with (first | ((with_reducible refine gate_callee (f := 72) rfl ?_); refine goesL_ (some 16) rfl rfl Tryd.func72 (by kernel_rfl) rfl #[.slice A0 l0.length c0, .int .i64 x5_1] rfl pM ?_; (with_reducible refine (r1_at.calls _ _ l0 x5_1 t539 _ ?side1 ?side2 A5.out).mono ?_); (case side1 => exact pC HR0.out); (case side2 => exact HC0.out); rintro e w' ⟨rfl, ⟨nd, rfl⟩⟩; refine ⟨_, rfl, ?_⟩) | ((with_reducible refine gate_callee (f := 72) rfl ?_); refine goesL_ (some 19) rfl rfl Tryd.func72 (by kernel_rfl) rfl #[.slice A1 l1.length c1, .int .i64 x5_1] rfl pM ?_; (with_reducible refine (r1_at.calls _ _ l1 x5_1 t540 _ ?side1 ?side2 A6.out).mono ?_); (case side1 => exact pC HR1.out); (case side2 => exact HC1.out); rintro e w' ⟨rfl, ⟨nd, rfl⟩⟩; refine ⟨_, rfl, ?_⟩))
     go_ret
     exact ⟨by first | rfl | (simp; done) | (simp [*]; done), by repeat (first | exact Drawn0.refl _ | apply Drawn0.step)⟩
    ·rw [if_neg c7] at H
     have c7b0 : decide (t539 < t540) = false := decide_eq_false c7
     clear c7
     replace H := Option.bind_eq_some_iff.mp H
     obtain ⟨t541, A80, H⟩ := H
     try dsimp only at H
     have A8 := am A80
     clear A80
     replace H := Option.bind_eq_some_iff.mp H
     obtain ⟨t542, A90, H⟩ := H
     try dsimp only at H
     have A9 := am A90
     clear A90
     by_cases c10 : t541 > t542
     ·rw [if_pos c10] at H
      have c10b0 : decide (t542 < t541) = true := decide_eq_true c10
      clear c10
      obtain rfl := Option.some.inj H
      go_wp2_with (first | ((with_reducible refine gate_callee (f := 72) rfl ?_); refine goesL_ (some 16) rfl rfl Tryd.func72 (by kernel_rfl) rfl #[.slice A0 l0.length c0, .int .i64 x5_1] rfl pM ?_; (with_reducible refine (r1_at.calls _ _ l0 x5_1 t539 _ ?side1 ?side2 A5.out).mono ?_); (case side1 => exact pC HR0.out); (case side2 => exact HC0.out); rintro e w' ⟨rfl, ⟨nd, rfl⟩⟩; refine ⟨_, rfl, ?_⟩) | ((with_reducible refine gate_callee (f := 72) rfl ?_); refine goesL_ (some 19) rfl rfl Tryd.func72 (by kernel_rfl) rfl #[.slice A1 l1.length c1, .int .i64 x5_1] rfl pM ?_; (with_reducible refine (r1_at.calls _ _ l1 x5_1 t540 _ ?side1 ?side2 A6.out).mono ?_); (case side1 => exact pC HR1.out); (case side2 => exact HC1.out); rintro e w' ⟨rfl, ⟨nd, rfl⟩⟩; refine ⟨_, rfl, ?_⟩) | ((with_reducible refine gate_callee (f := 72) rfl ?_); refine goesL_ (some 23) rfl rfl Tryd.func72 (by kernel_rfl) rfl #[.slice A0 l0.length c0, .int .i64 x5_1] rfl pM ?_; (with_reducible refine (r1_at.calls _ _ l0 x5_1 t541 _ ?side1 ?side2 A8.out).mono ?_); (case side1 => exact pC HR0.out); (case side2 => exact HC0.out); rintro e w' ⟨rfl, ⟨nd, rfl⟩⟩; refine ⟨_, rfl, ?_⟩) | ((with_reducible refine gate_callee (f := 72) rfl ?_); refine goesL_ (some 26) rfl rfl Tryd.func72 (by kernel_rfl) rfl #[.slice A1 l1.length c1, .int .i64 x5_1] rfl pM ?_; (with_reducible refine (r1_at.calls _ _ l1 x5_1 t542 _ ?side1 ?side2 A9.out).mono ?_); (case side1 => exact pC HR1.out); (case side2 => exact HC1.out); rintro e w' ⟨rfl, ⟨nd, rfl⟩⟩; refine ⟨_, rfl, ?_⟩))
      go_ret
      exact ⟨by first | rfl | (simp; done) | (simp [*]; done), by repeat (first | exact Drawn0.refl _ | apply Drawn0.step)⟩
     ·rw [if_neg c10] at H
      have c10b0 : decide (t542 < t541) = false := decide_eq_false c10
      clear c10
      have H' := am H
      clear H
      go_wp2_with (first | ((with_reducible refine gate_callee (f := 72) rfl ?_); refine goesL_ (some 16) rfl rfl Tryd.func72 (by kernel_rfl) rfl #[.slice A0 l0.length c0, .int .i64 x5_1] rfl pM ?_; (with_reducible refine (r1_at.calls _ _ l0 x5_1 t539 _ ?side1 ?side2 A5.out).mono ?_); (case side1 => exact pC HR0.out); (case side2 => exact HC0.out); rintro e w' ⟨rfl, ⟨nd, rfl⟩⟩; refine ⟨_, rfl, ?_⟩) | ((with_reducible refine gate_callee (f := 72) rfl ?_); refine goesL_ (some 19) rfl rfl Tryd.func72 (by kernel_rfl) rfl #[.slice A1 l1.length c1, .int .i64 x5_1] rfl pM ?_; (with_reducible refine (r1_at.calls _ _ l1 x5_1 t540 _ ?side1 ?side2 A6.out).mono ?_); (case side1 => exact pC HR1.out); (case side2 => exact HC1.out); rintro e w' ⟨rfl, ⟨nd, rfl⟩⟩; refine ⟨_, rfl, ?_⟩) | ((with_reducible refine gate_callee (f := 72) rfl ?_); refine goesL_ (some 23) rfl rfl Tryd.func72 (by kernel_rfl) rfl #[.slice A0 l0.length c0, .int .i64 x5_1] rfl pM ?_; (with_reducible refine (r1_at.calls _ _ l0 x5_1 t541 _ ?side1 ?side2 A8.out).mono ?_); (case side1 => exact pC HR0.out); (case side2 => exact HC0.out); rintro e w' ⟨rfl, ⟨nd, rfl⟩⟩; refine ⟨_, rfl, ?_⟩) | ((with_reducible refine gate_callee (f := 72) rfl ?_); refine goesL_ (some 26) rfl rfl Tryd.func72 (by kernel_rfl) rfl #[.slice A1 l1.length c1, .int .i64 x5_1] rfl pM ?_; (with_reducible refine (r1_at.calls _ _ l1 x5_1 t542 _ ?side1 ?side2 A9.out).mono ?_); (case side1 => exact pC HR1.out); (case side2 => exact HC1.out); rintro e w' ⟨rfl, ⟨nd, rfl⟩⟩; refine ⟨_, rfl, ?_⟩))
      go_roundg k1
      case measure => have := HK1.out; omega
      case rel => exact ⟨(wrap64 (x5_1 - 1)), (by first | rfl | (simp; done) | (simp [*]; done)), H', ⟨by have := HK1.out; omega⟩, by repeat (first | exact Drawn0.refl _ | apply Drawn0.step)⟩
   ·rw [if_neg c4] at H
    have c4b0 : decide (0 ≤ x5_1) = false := decide_eq_false c4
    clear c4
    obtain rfl := Option.some.inj H
    go_wp2
    go_ret
    exact ⟨by first | rfl | (simp; done) | (simp [*]; done), by repeat (first | exact Drawn0.refl _ | apply Drawn0.step)⟩
def r1_Minus.l0 : Nat → List Int → List Int → List Int → Int → Int → Option (List Int)
 | 0, _, _, _, _, _ => none
 | k + 1, x0, x1, x5, x6, x7 => if x7 < (x0.length : Int) then (if 0 ≤ x7 then ((r1_at.f x1 x7).bind fun t547 => (if (rd x0 x7) < (IntKind.u64.wrap (t547 + x6)) then (if x5.length < 17592186044416 then (r1_Minus.l0 k x0 x1 (x5 ++ [IntKind.u64.wrap ((IntKind.u64.wrap ((rd x0 x7) + 65536)) - (IntKind.u64.wrap (t547 + x6)))]) 1 (wrap64 (x7 + 1))) else (none)) else (if x5.length < 17592186044416 then (r1_Minus.l0 k x0 x1 (x5 ++ [IntKind.u64.wrap ((rd x0 x7) - (IntKind.u64.wrap (t547 + x6)))]) 0 (wrap64 (x7 + 1))) else (none)))) else (none)) else ((r1_Trim.f k x5).bind fun t554 => (some t554))
def r1_Minus.f (k : Nat) (l0 : List Int) (l1 : List Int) : Option (List Int) := r1_Minus.l0 k l0 l1 (([] : List Int)) 0 0
set_option maxHeartbeats 8000000 in
set_option maxRecDepth 100000 in
theorem r1_Minus.calls (k : Nat) (A0 : Option Addr) (c0 : Nat) (l0 : List Int) (A1 : Option Addr) (c1 : Nat) (l1 : List Int) (r : List Int) (w : World) (hr0 : Kd.C (Kd.int .u64) w A0 l0.length l0) (hc0 : l0.length ≤ c0) (hr1 : Kd.C (Kd.int .u64) w A1 l1.length l1) (hc1 : l1.length ≤ c1) (h : r1_Minus.f k l0 l1 = some r) :
  Calls Tryd.prog 53 #[.slice A0 l0.length c0, .slice A1 l1.length c1] w fun e w' => ∃ v0_ : Value, e = .returned (v0_) ∧ Kd.R (Kd.int .u64) 22 w' w.heap.size (fun _ => True) v0_ r ∧ Below w.heap.size w w' := by
 have HR0 := am hr0
 have HC0 := am hc0
 clear hr0 hc0
 have HR1 := am hr1
 have HC1 := am hc1
 clear hr1 hc1
 have HB := am (Below.refl w.heap.size w)
 have H : (r1_Minus.l0 k l0 l1 (([] : List Int)) 0 0) = some r := h
 clear h
 obtain ⟨y543, hy543⟩ : ∃ y_ : List Int, y_ = (([] : List Int)) := ⟨_, rfl⟩
 replace H : (r1_Minus.l0 k l0 l1 y543 0 0) = some r := by first | (rw [hy543]; with_reducible exact H) | (have H2_ := (Option.bind_some _ _).symm.trans H; rw [hy543]; with_reducible exact H2_) | (have H2_ := (Option.bind_some _ _).symm.trans H; with_reducible exact H2_) | with_reducible exact H | (rw [hy543]; exact H) | exact H
 have Ny543 := am hy543
 clear hy543
 have H' := am H
 clear H
 go_enter Tryd.func53, Tryd.ntmps53
 go_wp2_with (first | ((with_reducible refine gate_dst (N := 10) rfl ?_); refine Kd.R_lit (Kd.int .u64) _ 22 ?hg (N := 10) ?hd (xs := ([] : List Int)) (inner := []) (ok := fun _ => True) (okp := fun _ => True) ?hr ?hp (fun _ hk => hk) trivial (Below.refl _ _) (Nat.le_refl _) (by simp) ?_; (case hd => rfl); (case hg => rfl); (case hr => first | (go_simp; done) | (go_simp; rfl)); (case hp => exact (Reps.none _ _)); intro v544 w3 ho4 hb hg_ hnew_; clear hg_ hnew_; (first | rw [← Ny543.out] at ho4 | (simp only [Int.reduceToNat] at ho4; rw [← Ny543.out] at ho4)); have HO545 := am (Kd.R_lower ho4 (below_size pB)); replace HB := am (below_step pB hb); clear hb ho4))
 repeat (go_quiet (first | ((with_reducible refine gate_dst (N := 10) rfl ?_); refine Kd.R_lit (Kd.int .u64) _ 22 ?hg (N := 10) ?hd (xs := ([] : List Int)) (inner := []) (ok := fun _ => True) (okp := fun _ => True) ?hr ?hp (fun _ hk => hk) trivial (Below.refl _ _) (Nat.le_refl _) (by simp) ?_; (case hd => rfl); (case hg => rfl); (case hr => first | (go_simp; done) | (go_simp; rfl)); (case hp => exact (Reps.none _ _)); intro v544 w3 ho4 hb hg_ hnew_; clear hg_ hnew_; (first | rw [← Ny543.out] at ho4 | (simp only [Int.reduceToNat] at ho4; rw [← Ny543.out] at ho4)); have HO545 := am (Kd.R_lower ho4 (below_size pB)); replace HB := am (below_step pB hb); clear hb ho4)); try go_wp2_with (first | ((with_reducible refine gate_dst (N := 10) rfl ?_); refine Kd.R_lit (Kd.int .u64) _ 22 ?hg (N := 10) ?hd (xs := ([] : List Int)) (inner := []) (ok := fun _ => True) (okp := fun _ => True) ?hr ?hp (fun _ hk => hk) trivial (Below.refl _ _) (Nat.le_refl _) (by simp) ?_; (case hd => rfl); (case hg => rfl); (case hr => first | (go_simp; done) | (go_simp; rfl)); (case hp => exact (Reps.none _ _)); intro v544 w3 ho4 hb hg_ hnew_; clear hg_ hnew_; (first | rw [← Ny543.out] at ho4 | (simp only [Int.reduceToNat] at ho4; rw [← Ny543.out] at ho4)); have HO545 := am (Kd.R_lower ho4 (below_size pB)); replace HB := am (below_step pB hb); clear hb ho4)))
 go_loopg [5, 6, 7] k (fun kq v5 v6 v7 w' => ∃ (x5_1 : List Int) (x6_1 : Int) (x7_1 : Int), v6 = .int .u64 x6_1 ∧ v7 = .int .i64 x7_1 ∧ Aside0 (r1_Minus.l0 kq l0 l1 x5_1 x6_1 x7_1 = some r) ∧ Aside0 (kq ≤ k) ∧ Aside0 (Kd.R (Kd.int .u64) 22 w' w.heap.size (fun _ => True) v5 x5_1) ∧ Aside0 (Below w.heap.size w w'))
 case atStart => exact ⟨(y543), (0), (0), (by first | rfl | (simp; done) | (simp [*]; done)), (by first | rfl | (simp; done) | (simp [*]; done)), H', ⟨Nat.le_refl _⟩, ⟨by (with_reducible repeat (first | apply Kd.R_alloc | apply Kd.R_drewN | apply Kd.R_drew)); exact HO545.out⟩, ⟨pB⟩⟩
 case round =>
  clear H'
  try clear c1
  try clear p2
  obtain ⟨x5_1, x6_1, x7_1, rfl, rfl, HA, HK1, HO_5, HB⟩ := hrel
  cases gk with
  | zero => exact absurd HA.out (by simp [r1_Minus.l0])
  | succ k1 =>
   have H := HA.out
   clear HA
   simp only [r1_Minus.l0] at H
   by_cases c5 : x7_1 < (l0.length : Int)
   ·rw [if_pos c5] at H
    have c5b0 : decide (x7_1 < (l0.length : Int)) = true := decide_eq_true c5
    clear c5
    by_cases c6 : 0 ≤ x7_1
    ·rw [if_pos c6] at H
     have c6b0 : decide (0 ≤ x7_1) = true := decide_eq_true c6
     clear c6
     replace H := Option.bind_eq_some_iff.mp H
     obtain ⟨t547, A70, H⟩ := H
     try dsimp only at H
     have A7 := am A70
     clear A70
     by_cases c8 : (rd l0 x7_1) < (IntKind.u64.wrap (t547 + x6_1))
     ·rw [if_pos c8] at H
      have c8b0 : decide ((rd l0 x7_1) < (IntKind.u64.wrap (t547 + x6_1))) = true := decide_eq_true c8
      clear c8
      by_cases c9 : x5_1.length < 17592186044416
      ·rw [if_pos c9] at H
       have LMc9 := am c9
       clear c9
       obtain ⟨y548, hy548⟩ : ∃ y_ : List Int, y_ = (x5_1 ++ [IntKind.u64.wrap ((IntKind.u64.wrap ((rd l0 x7_1) + 65536)) - (IntKind.u64.wrap (t547 + x6_1)))]) := ⟨_, rfl⟩
       replace H : (r1_Minus.l0 k1 l0 l1 y548 1 (wrap64 (x7_1 + 1))) = some r := by first | (rw [hy548]; with_reducible exact H) | (have H2_ := (Option.bind_some _ _).symm.trans H; rw [hy548]; with_reducible exact H2_) | (have H2_ := (Option.bind_some _ _).symm.trans H; with_reducible exact H2_) | with_reducible exact H | (rw [hy548]; exact H) | exact H
       have Ny548 := am hy548
       clear hy548
       have H' := am H
       clear H
       have p546 : 0 ≤ (x7_1 : Int) := pD
       have q546 : x7_1 < (l0.length : Int) := pD
       obtain ⟨ad546, e546, hx546_0⟩ := Kd.at_int HR0.out x7_1 p546 q546
       cases e546
       replace hx546_0 := (HB.out.cell (World.block_lt_of_cell? w _ hx546_0)).trans hx546_0
       replace p546 := eq_true p546
       replace q546 := eq_true q546
       go_wp2_with (first | (go_at_call 72; (with_reducible refine (r1_at.calls _ _ l1 x7_1 t547 _ ?side1 ?side2 A7.out).mono ?_); (case side1 => exact pC (Kd.C_below HR1.out HB.out)); (case side2 => exact HC1.out); rintro e w' ⟨rfl, ⟨nd, rfl⟩⟩; (try first | exact ⟨rfl, _, World.drewN_drewN _ _ _⟩ | exact ⟨rfl, _, Eq.trans (World.drewN_drewN _ _ _) (congrArg (World.drewN _) (Nat.add_assoc _ _ _))⟩)) | ((with_reducible refine gate_builtin (b := .append) (xs := #[.tmp 31, .tmp 35]) rfl ?_); at_builtin; refine Kd.R_append (Kd.int .u64) (w0 := w) w.heap.size rfl (.tmp 31) (.tmp 35) 52 22 (.int .u64 0) 8 rfl Tryd.underlying52 info22 rfl (by decide) (by omega) u5 x5_1 (IntKind.u64.wrap ((IntKind.u64.wrap ((rd l0 x7_1) + 65536)) - (IntKind.u64.wrap (t547 + x6_1)))) [.int .u64 (IntKind.u64.wrap ((IntKind.u64.wrap ((rd l0 x7_1) + 65536)) - (IntKind.u64.wrap (t547 + x6_1))))] (fun _ => True) (fun _ => False) rfl rfl ?aP (fun _ hk => hk.elim) ?aF ?aO ?aB ?aS ?aL ?_; (case aP => exact rfl); (case aB => exact pB); (case aF => exact (fun _ _ => trivial)); (case aO => exact (pR HO_5.out)); (case aS => exact (below_size pB)); (case aL => have := LMc9.out; omega); intro v549 w10 ho hb hg hat; rw [← Ny548.out] at ho; replace HB := am (hb); have HO550 := am (ho); clear HO_5; clear ho hb hg hat))
       repeat (go_quiet (first | (go_at_call 72; (with_reducible refine (r1_at.calls _ _ l1 x7_1 t547 _ ?side1 ?side2 A7.out).mono ?_); (case side1 => exact pC (Kd.C_below HR1.out HB.out)); (case side2 => exact HC1.out); rintro e w' ⟨rfl, ⟨nd, rfl⟩⟩; (try first | exact ⟨rfl, _, World.drewN_drewN _ _ _⟩ | exact ⟨rfl, _, Eq.trans (World.drewN_drewN _ _ _) (congrArg (World.drewN _) (Nat.add_assoc _ _ _))⟩)) | ((with_reducible refine gate_builtin (b := .append) (xs := #[.tmp 31, .tmp 35]) rfl ?_); at_builtin; refine Kd.R_append (Kd.int .u64) (w0 := w) w.heap.size rfl (.tmp 31) (.tmp 35) 52 22 (.int .u64 0) 8 rfl Tryd.underlying52 info22 rfl (by decide) (by omega) u5 x5_1 (IntKind.u64.wrap ((IntKind.u64.wrap ((rd l0 x7_1) + 65536)) - (IntKind.u64.wrap (t547 + x6_1)))) [.int .u64 (IntKind.u64.wrap ((IntKind.u64.wrap ((rd l0 x7_1) + 65536)) - (IntKind.u64.wrap (t547 + x6_1))))] (fun _ => True) (fun _ => False) rfl rfl ?aP (fun _ hk => hk.elim) ?aF ?aO ?aB ?aS ?aL ?_; (case aP => exact rfl); (case aB => exact pB); (case aF => exact (fun _ _ => trivial)); (case aO => exact (pR HO_5.out)); (case aS => exact (below_size pB)); (case aL => have := LMc9.out; omega); intro v549 w10 ho hb hg hat; rw [← Ny548.out] at ho; replace HB := am (hb); have HO550 := am (ho); clear HO_5; clear ho hb hg hat)); try go_wp2_with (first | (go_at_call 72; (with_reducible refine (r1_at.calls _ _ l1 x7_1 t547 _ ?side1 ?side2 A7.out).mono ?_); (case side1 => exact pC (Kd.C_below HR1.out HB.out)); (case side2 => exact HC1.out); rintro e w' ⟨rfl, ⟨nd, rfl⟩⟩; (try first | exact ⟨rfl, _, World.drewN_drewN _ _ _⟩ | exact ⟨rfl, _, Eq.trans (World.drewN_drewN _ _ _) (congrArg (World.drewN _) (Nat.add_assoc _ _ _))⟩)) | ((with_reducible refine gate_builtin (b := .append) (xs := #[.tmp 31, .tmp 35]) rfl ?_); at_builtin; refine Kd.R_append (Kd.int .u64) (w0 := w) w.heap.size rfl (.tmp 31) (.tmp 35) 52 22 (.int .u64 0) 8 rfl Tryd.underlying52 info22 rfl (by decide) (by omega) u5 x5_1 (IntKind.u64.wrap ((IntKind.u64.wrap ((rd l0 x7_1) + 65536)) - (IntKind.u64.wrap (t547 + x6_1)))) [.int .u64 (IntKind.u64.wrap ((IntKind.u64.wrap ((rd l0 x7_1) + 65536)) - (IntKind.u64.wrap (t547 + x6_1))))] (fun _ => True) (fun _ => False) rfl rfl ?aP (fun _ hk => hk.elim) ?aF ?aO ?aB ?aS ?aL ?_; (case aP => exact rfl); (case aB => exact pB); (case aF => exact (fun _ _ => trivial)); (case aO => exact (pR HO_5.out)); (case aS => exact (below_size pB)); (case aL => have := LMc9.out; omega); intro v549 w10 ho hb hg hat; rw [← Ny548.out] at ho; replace HB := am (hb); have HO550 := am (ho); clear HO_5; clear ho hb hg hat)))
       go_roundg k1
       case measure => have := HK1.out; omega
       case rel => exact ⟨(y548), (1), (wrap64 (x7_1 + 1)), (by first | rfl | (simp; done) | (simp [*]; done)), (by first | rfl | (simp; done) | (simp [*]; done)), H', ⟨by have := HK1.out; omega⟩, ⟨by (with_reducible repeat (first | apply Kd.R_alloc | apply Kd.R_drewN | apply Kd.R_drew)); exact HO550.out⟩, ⟨pB⟩⟩
      ·rw [if_neg c9] at H
       exact absurd H (by simp)
     ·rw [if_neg c8] at H
      have c8b0 : decide ((rd l0 x7_1) < (IntKind.u64.wrap (t547 + x6_1))) = false := decide_eq_false c8
      clear c8
      by_cases c11 : x5_1.length < 17592186044416
      ·rw [if_pos c11] at H
       have LMc11 := am c11
       clear c11
       obtain ⟨y551, hy551⟩ : ∃ y_ : List Int, y_ = (x5_1 ++ [IntKind.u64.wrap ((rd l0 x7_1) - (IntKind.u64.wrap (t547 + x6_1)))]) := ⟨_, rfl⟩
       replace H : (r1_Minus.l0 k1 l0 l1 y551 0 (wrap64 (x7_1 + 1))) = some r := by first | (rw [hy551]; with_reducible exact H) | (have H2_ := (Option.bind_some _ _).symm.trans H; rw [hy551]; with_reducible exact H2_) | (have H2_ := (Option.bind_some _ _).symm.trans H; with_reducible exact H2_) | with_reducible exact H | (rw [hy551]; exact H) | exact H
       have Ny551 := am hy551
       clear hy551
       have H' := am H
       clear H
       have p546 : 0 ≤ (x7_1 : Int) := pD
       have q546 : x7_1 < (l0.length : Int) := pD
       obtain ⟨ad546, e546, hx546_0⟩ := Kd.at_int HR0.out x7_1 p546 q546
       cases e546
       replace hx546_0 := (HB.out.cell (World.block_lt_of_cell? w _ hx546_0)).trans hx546_0
       replace p546 := eq_true p546
       replace q546 := eq_true q546
       go_wp2_with (first | (go_at_call 72; (with_reducible refine (r1_at.calls _ _ l1 x7_1 t547 _ ?side1 ?side2 A7.out).mono ?_); (case side1 => exact pC (Kd.C_below HR1.out HB.out)); (case side2 => exact HC1.out); rintro e w' ⟨rfl, ⟨nd, rfl⟩⟩; (try first | exact ⟨rfl, _, World.drewN_drewN _ _ _⟩ | exact ⟨rfl, _, Eq.trans (World.drewN_drewN _ _ _) (congrArg (World.drewN _) (Nat.add_assoc _ _ _))⟩)) | ((with_reducible refine gate_builtin (b := .append) (xs := #[.tmp 31, .tmp 35]) rfl ?_); at_builtin; refine Kd.R_append (Kd.int .u64) (w0 := w) w.heap.size rfl (.tmp 31) (.tmp 35) 52 22 (.int .u64 0) 8 rfl Tryd.underlying52 info22 rfl (by decide) (by omega) u5 x5_1 (IntKind.u64.wrap ((rd l0 x7_1) - (IntKind.u64.wrap (t547 + x6_1)))) [.int .u64 (IntKind.u64.wrap ((rd l0 x7_1) - (IntKind.u64.wrap (t547 + x6_1))))] (fun _ => True) (fun _ => False) rfl rfl ?aP (fun _ hk => hk.elim) ?aF ?aO ?aB ?aS ?aL ?_; (case aP => exact rfl); (case aB => exact pB); (case aF => exact (fun _ _ => trivial)); (case aO => exact (pR HO_5.out)); (case aS => exact (below_size pB)); (case aL => have := LMc11.out; omega); intro v552 w12 ho hb hg hat; rw [← Ny551.out] at ho; replace HB := am (hb); have HO553 := am (ho); clear HO_5; clear ho hb hg hat))
       repeat (go_quiet (first | (go_at_call 72; (with_reducible refine (r1_at.calls _ _ l1 x7_1 t547 _ ?side1 ?side2 A7.out).mono ?_); (case side1 => exact pC (Kd.C_below HR1.out HB.out)); (case side2 => exact HC1.out); rintro e w' ⟨rfl, ⟨nd, rfl⟩⟩; (try first | exact ⟨rfl, _, World.drewN_drewN _ _ _⟩ | exact ⟨rfl, _, Eq.trans (World.drewN_drewN _ _ _) (congrArg (World.drewN _) (Nat.add_assoc _ _ _))⟩)) | ((with_reducible refine gate_builtin (b := .append) (xs := #[.tmp 31, .tmp 35]) rfl ?_); at_builtin; refine Kd.R_append (Kd.int .u64) (w0 := w) w.heap.size rfl (.tmp 31) (.tmp 35) 52 22 (.int .u64 0) 8 rfl Tryd.underlying52 info22 rfl (by decide) (by omega) u5 x5_1 (IntKind.u64.wrap ((rd l0 x7_1) - (IntKind.u64.wrap (t547 + x6_1)))) [.int .u64 (IntKind.u64.wrap ((rd l0 x7_1) - (IntKind.u64.wrap (t547 + x6_1))))] (fun _ => True) (fun _ => False) rfl rfl ?aP (fun _ hk => hk.elim) ?aF ?aO ?aB ?aS ?aL ?_; (case aP => exact rfl); (case aB => exact pB); (case aF => exact (fun _ _ => trivial)); (case aO => exact (pR HO_5.out)); (case aS => exact (below_size pB)); (case aL => have := LMc11.out; omega); intro v552 w12 ho hb hg hat; rw [← Ny551.out] at ho; replace HB := am (hb); have HO553 := am (ho); clear HO_5; clear ho hb hg hat)); try go_wp2_with (first | (go_at_call 72; (with_reducible refine (r1_at.calls _ _ l1 x7_1 t547 _ ?side1 ?side2 A7.out).mono ?_); (case side1 => exact pC (Kd.C_below HR1.out HB.out)); (case side2 => exact HC1.out); rintro e w' ⟨rfl, ⟨nd, rfl⟩⟩; (try first | exact ⟨rfl, _, World.drewN_drewN _ _ _⟩ | exact ⟨rfl, _, Eq.trans (World.drewN_drewN _ _ _) (congrArg (World.drewN _) (Nat.add_assoc _ _ _))⟩)) | ((with_reducible refine gate_builtin (b := .append) (xs := #[.tmp 31, .tmp 35]) rfl ?_); at_builtin; refine Kd.R_append (Kd.int .u64) (w0 := w) w.heap.size rfl (.tmp 31) (.tmp 35) 52 22 (.int .u64 0) 8 rfl Tryd.underlying52 info22 rfl (by decide) (by omega) u5 x5_1 (IntKind.u64.wrap ((rd l0 x7_1) - (IntKind.u64.wrap (t547 + x6_1)))) [.int .u64 (IntKind.u64.wrap ((rd l0 x7_1) - (IntKind.u64.wrap (t547 + x6_1))))] (fun _ => True) (fun _ => False) rfl rfl ?aP (fun _ hk => hk.elim) ?aF ?aO ?aB ?aS ?aL ?_; (case aP => exact rfl); (case aB => exact pB); (case aF => exact (fun _ _ => trivial)); (case aO => exact (pR HO_5.out)); (case aS => exact (below_size pB)); (case aL => have := LMc11.out; omega); intro v552 w12 ho hb hg hat; rw [← Ny551.out] at ho; replace HB := am (hb); have HO553 := am (ho); clear HO_5; clear ho hb hg hat)))
       go_roundg k1
       case measure => have := HK1.out; omega
       case rel => exact ⟨(y551), (0), (wrap64 (x7_1 + 1)), (by first | rfl | (simp; done) | (simp [*]; done)), (by first | rfl | (simp; done) | (simp [*]; done)), H', ⟨by have := HK1.out; omega⟩, ⟨by (with_reducible repeat (first | apply Kd.R_alloc | apply Kd.R_drewN | apply Kd.R_drew)); exact HO553.out⟩, ⟨pB⟩⟩
      ·rw [if_neg c11] at H
       exact absurd H (by simp)
    ·rw [if_neg c6] at H
     exact absurd H (by simp)
   ·rw [if_neg c5] at H
    have c5b0 : decide (x7_1 < (l0.length : Int)) = false := decide_eq_false c5
    clear c5
    replace H := Option.bind_eq_some_iff.mp H
    obtain ⟨t554, A130, H⟩ := H
    try dsimp only at H
    have A13 := am A130
    clear A130
    obtain rfl := Option.some.inj H
    obtain ⟨Ao14, co14, eo14⟩ := Kd.R_slice HO_5.out
    subst eo14
    go_wp2_with (first | (go_at_call 50; (with_reducible refine (r1_Trim.calls k1 _ _ x5_1 t554 _ ?side1 ?side2 A13.out).mono ?_); (case side1 => repeat (first | exact (Kd.R_reads' HO_5.out).2.2 | (with_reducible refine Kd.C_alloc ?_ _) | (with_reducible refine Kd.C_drewN ?_ _) | (with_reducible refine Kd.C_drew ?_))); (case side2 => exact (Kd.R_reads' HO_5.out).2.1); rintro e w15 ⟨v555, rfl, ho0, hb⟩; have HO556 := am (Kd.R_lower (Kd.R_new' ho0 (Kd.R_lt (pR HO_5.out))) (below_size pB)); replace HO_5 := am (Kd.R_elder' (pR HO_5.out) (Kd.R_base ho0) hb); replace HB := am (below_step pB hb); (try clear hb); (try clear ho0)))
    repeat (go_quiet (first | (go_at_call 50; (with_reducible refine (r1_Trim.calls k1 _ _ x5_1 t554 _ ?side1 ?side2 A13.out).mono ?_); (case side1 => repeat (first | exact (Kd.R_reads' HO_5.out).2.2 | (with_reducible refine Kd.C_alloc ?_ _) | (with_reducible refine Kd.C_drewN ?_ _) | (with_reducible refine Kd.C_drew ?_))); (case side2 => exact (Kd.R_reads' HO_5.out).2.1); rintro e w15 ⟨v555, rfl, ho0, hb⟩; have HO556 := am (Kd.R_lower (Kd.R_new' ho0 (Kd.R_lt (pR HO_5.out))) (below_size pB)); replace HO_5 := am (Kd.R_elder' (pR HO_5.out) (Kd.R_base ho0) hb); replace HB := am (below_step pB hb); (try clear hb); (try clear ho0))); try go_wp2_with (first | (go_at_call 50; (with_reducible refine (r1_Trim.calls k1 _ _ x5_1 t554 _ ?side1 ?side2 A13.out).mono ?_); (case side1 => repeat (first | exact (Kd.R_reads' HO_5.out).2.2 | (with_reducible refine Kd.C_alloc ?_ _) | (with_reducible refine Kd.C_drewN ?_ _) | (with_reducible refine Kd.C_drew ?_))); (case side2 => exact (Kd.R_reads' HO_5.out).2.1); rintro e w15 ⟨v555, rfl, ho0, hb⟩; have HO556 := am (Kd.R_lower (Kd.R_new' ho0 (Kd.R_lt (pR HO_5.out))) (below_size pB)); replace HO_5 := am (Kd.R_elder' (pR HO_5.out) (Kd.R_base ho0) hb); replace HB := am (below_step pB hb); (try clear hb); (try clear ho0))))
    go_ret
    exact ⟨_, pE, by (with_reducible repeat (first | apply Kd.R_alloc | apply Kd.R_drewN | apply Kd.R_drew)); exact Kd.R_mono HO556.out (fun _ hk => trivial), pB⟩
def r1_Divide.l0 : Nat → List Int → List Int → List Int → List Int → Int → Option (List Int × List Int)
 | 0, _, _, _, _, _ => none
 | k + 1, x0, x1, x6, x7, x8 => if x8 ≥ 0 then ((r1_Up.f k x7 1).bind fun t567 => ((r1_Bit.f x0 x8).bind fun t570 => ((r1_Sum.f k t567 (([t570] : List Int))).bind fun t574 => ((r1_Cmp.f k t574 x1).bind fun t577 => (if t577 ≥ 0 then ((r1_Minus.f k t574 x1).bind fun t578 => (if 0 ≤ (wrap64 (Int.tdiv x8 16)) then (if (wrap64 (Int.tdiv x8 16)) < (x6.length : Int) then (if 0 ≤ (IntKind.u64.wrap (Int.tmod x8 16)) then (r1_Divide.l0 k x0 x1 (x6.set ((wrap64 (Int.tdiv x8 16)) : Int).toNat (Go.bits .or .u64 (rd x6 (wrap64 (Int.tdiv x8 16))) (shl .u64 1 (IntKind.u64.wrap (Int.tmod x8 16))))) t578 (wrap64 (x8 - 1))) else (none)) else (none)) else (none))) else (r1_Divide.l0 k x0 x1 x6 t574 (wrap64 (x8 - 1)))))))) else ((r1_Trim.f k x6).bind fun t564 => (some (t564, x7)))
def r1_Divide.f (k : Nat) (l0 : List Int) (l1 : List Int) : Option (List Int × List Int) := if 0 ≤ (l0.length : Int) then (if ((l0.length : Int) : Int).toNat ≤ 35184372088832 then ((r1_Len.f k l0).bind fun t563 => (r1_Divide.l0 k l0 l1 (List.replicate ((l0.length : Int) : Int).toNat 0) (([] : List Int)) (wrap64 (t563 - 1)))) else (none)) else (none)
set_option maxHeartbeats 8000000 in
set_option maxRecDepth 100000 in
theorem r1_Divide.calls (k : Nat) (A0 : Option Addr) (c0 : Nat) (l0 : List Int) (A1 : Option Addr) (c1 : Nat) (l1 : List Int) (r1 : List Int) (r2 : List Int) (w : World) (hr0 : Kd.C (Kd.int .u64) w A0 l0.length l0) (hc0 : l0.length ≤ c0) (hr1 : Kd.C (Kd.int .u64) w A1 l1.length l1) (hc1 : l1.length ≤ c1) (h : r1_Divide.f k l0 l1 = some (r1, r2)) :
  Calls Tryd.prog 26 #[.slice A0 l0.length c0, .slice A1 l1.length c1] w fun e w' => ∃ v0_ v1_ : Value, e = .returned (.tuple #[v0_, v1_]) ∧ Kd.R (Kd.int .u64) 22 w' w.heap.size (fun k_ => some k_ ≠ (v1_ : Value).ownBlock) v0_ r1 ∧ Kd.R (Kd.int .u64) 22 w' w.heap.size (fun k_ => some k_ ≠ (v0_ : Value).ownBlock) v1_ r2 ∧ Below w.heap.size w w' := by
 have HR0 := am hr0
 have HC0 := am hc0
 clear hr0 hc0
 have HR1 := am hr1
 have HC1 := am hc1
 clear hr1 hc1
 have HB := am (Below.refl w.heap.size w)
 have H : (if 0 ≤ (l0.length : Int) then (if ((l0.length : Int) : Int).toNat ≤ 35184372088832 then ((r1_Len.f k l0).bind fun t563 => (r1_Divide.l0 k l0 l1 (List.replicate ((l0.length : Int) : Int).toNat 0) (([] : List Int)) (wrap64 (t563 - 1)))) else (none)) else (none)) = some (r1, r2) := h
 clear h
 by_cases c3 : 0 ≤ (l0.length : Int)
 ·rw [if_pos c3] at H
  have c3b0 := eq_true c3
  have c3b1 : decide (0 ≤ (l0.length : Int)) = true := decide_eq_true c3
  clear c3
  by_cases c4 : ((l0.length : Int) : Int).toNat ≤ 35184372088832
  ·rw [if_pos c4] at H
   have c4b0 := eq_true c4
   have c4b1 : decide (((l0.length : Int) : Int).toNat ≤ 35184372088832) = true := decide_eq_true c4
   clear c4
   obtain ⟨y557, hy557⟩ : ∃ y_ : List Int, y_ = (List.replicate ((l0.length : Int) : Int).toNat 0) := ⟨_, rfl⟩
   replace H : ((r1_Len.f k l0).bind fun t563 => (r1_Divide.l0 k l0 l1 y557 (([] : List Int)) (wrap64 (t563 - 1)))) = some (r1, r2) := by first | (rw [hy557]; with_reducible exact H) | (have H2_ := (Option.bind_some _ _).symm.trans H; rw [hy557]; with_reducible exact H2_) | (have H2_ := (Option.bind_some _ _).symm.trans H; with_reducible exact H2_) | with_reducible exact H | (rw [hy557]; exact H) | exact H
   have Ny557 := am hy557
   clear hy557
   obtain ⟨y560, hy560⟩ : ∃ y_ : List Int, y_ = (([] : List Int)) := ⟨_, rfl⟩
   replace H : ((r1_Len.f k l0).bind fun t563 => (r1_Divide.l0 k l0 l1 y557 y560 (wrap64 (t563 - 1)))) = some (r1, r2) := by first | (rw [hy560]; with_reducible exact H) | (have H2_ := (Option.bind_some _ _).symm.trans H; rw [hy560]; with_reducible exact H2_) | (have H2_ := (Option.bind_some _ _).symm.trans H; with_reducible exact H2_) | with_reducible exact H | (rw [hy560]; exact H) | exact H
   have Ny560 := am hy560
   clear hy560
   replace H := Option.bind_eq_some_iff.mp H
   obtain ⟨t563, A50, H⟩ := H
   try dsimp only at H
   have A5 := am A50
   clear A50
   have H' := am H
   clear H
   go_enter Tryd.func26, Tryd.ntmps26
   go_wp2_with (first | ((with_reducible refine gate_dst (N := 11) rfl ?_); refine Kd.R_make (Kd.int .u64) _ 22 rfl (N := 11) rfl 52 _ _ rfl (l0.length : Int) rfl rfl Tryd.underlying52 (.int .u64 0) 8 info22 rfl (by decide) (by omega) 0 (ok := fun _ => True) (okp := fun _ => True) rfl (fun _ hk => hk) trivial pD (Nat.le_trans (Nat.mul_le_mul_right _ (pD : (l0.length : Int).toNat ≤ 35184372088832)) (by omega)) (Below.refl _ _) (Nat.le_refl _) ?_; intro v558 w6 ho7 hb hg_ hnew_; clear hg_ hnew_; (first | rw [← Ny557.out] at ho7 | (simp only [Int.reduceToNat] at ho7; rw [← Ny557.out] at ho7)); have HO559 := am (Kd.R_lower ho7 (below_size pB)); replace HB := am (below_step pB hb); clear hb ho7) | ((with_reducible refine gate_dst (N := 12) rfl ?_); refine Kd.R_lit (Kd.int .u64) _ 22 ?hg (N := 12) ?hd (xs := ([] : List Int)) (inner := []) (ok := fun _ => True) (okp := fun _ => True) ?hr ?hp (fun _ hk => hk) trivial (Below.refl _ _) (Nat.le_refl _) (by simp) ?_; (case hd => rfl); (case hg => rfl); (case hr => first | (go_simp; done) | (go_simp; rfl)); (case hp => exact (Reps.none _ _)); intro v561 w8 ho9 hb hg_ hnew_; clear hg_ hnew_; (first | rw [← Ny560.out] at ho9 | (simp only [Int.reduceToNat] at ho9; rw [← Ny560.out] at ho9)); have HO562 := am (Kd.R_lower (Kd.R_new' ho9 (Kd.R_lt (pR HO559.out))) (below_size pB)); replace HO559 := am (Kd.R_elder' (pR HO559.out) (Kd.R_base ho9) hb); replace HB := am (below_step pB hb); clear hb ho9) | ((with_reducible refine gate_callee (f := 25) rfl ?_); refine goesL_ (some 14) rfl rfl Tryd.func25 (by kernel_rfl) rfl #[.slice A0 l0.length c0] rfl pM ?_; (with_reducible refine (r1_Len.calls k _ _ l0 t563 _ ?side1 ?side2 A5.out).mono ?_); (case side1 => exact pC (Kd.C_below HR0.out HB.out)); (case side2 => exact HC0.out); rintro e w' ⟨rfl, ⟨nd, rfl⟩⟩; refine ⟨_, rfl, ?_⟩))
   go_loopg [7, 8] k (fun kq v7 v8 w' => ∃ (x6_1 : List Int) (x7_1 : List Int) (x8_1 : Int), v8 = .int .i64 x8_1 ∧ Aside0 (r1_Divide.l0 kq l0 l1 x6_1 x7_1 x8_1 = some (r1, r2)) ∧ Aside0 (kq ≤ k) ∧ Aside0 (Kd.R (Kd.int .u64) 22 w' w.heap.size (fun k_ => some k_ ≠ (v7 : Value).ownBlock) v558 x6_1) ∧ Aside0 (Kd.R (Kd.int .u64) 22 w' w.heap.size (fun k_ => some k_ ≠ (v558 : Value).ownBlock) v7 x7_1) ∧ Aside0 (Below w.heap.size w w'))
   case atStart => exact ⟨(y557), (y560), (wrap64 (t563 - 1)), (by first | rfl | (simp; done) | (simp [*]; done)), H', ⟨Nat.le_refl _⟩, ⟨by (with_reducible repeat (first | apply Kd.R_alloc | apply Kd.R_drewN | apply Kd.R_drew)); exact Kd.R_mono HO559.out (fun _ hk => hk.2)⟩, ⟨by (with_reducible repeat (first | apply Kd.R_alloc | apply Kd.R_drewN | apply Kd.R_drew)); exact Kd.R_mono HO562.out (fun _ hk => hk.2)⟩, ⟨pB⟩⟩
   case round =>
    clear H'
    try clear c1
    try clear c2
    try clear p2
    try clear c3
    try clear c3b0
    try clear c3b1
    try clear c4
    try clear c4b0
    try clear c4b1
    try clear p6
    obtain ⟨x6_1, x7_1, x8_1, rfl, HA, HK1, HO_6, HO_7, HB⟩ := hrel
    cases gk with
    | zero => exact absurd HA.out (by simp [r1_Divide.l0])
    | succ k1 =>
     have H := HA.out
     clear HA
     simp only [r1_Divide.l0] at H
     by_cases c10 : x8_1 ≥ 0
     ·rw [if_pos c10] at H
      have c10b0 : decide (0 ≤ x8_1) = true := decide_eq_true c10
      clear c10
      replace H := Option.bind_eq_some_iff.mp H
      obtain ⟨t567, A110, H⟩ := H
      try dsimp only at H
      have A11 := am A110
      clear A110
      replace H := Option.bind_eq_some_iff.mp H
      obtain ⟨t570, A120, H⟩ := H
      try dsimp only at H
      have A12 := am A120
      clear A120
      obtain ⟨y571, hy571⟩ : ∃ y_ : List Int, y_ = (([t570] : List Int)) := ⟨_, rfl⟩
      replace H : ((r1_Sum.f k1 t567 y571).bind fun t574 => ((r1_Cmp.f k1 t574 l1).bind fun t577 => (if t577 ≥ 0 then ((r1_Minus.f k1 t574 l1).bind fun t578 => (if 0 ≤ (wrap64 (Int.tdiv x8_1 16)) then (if (wrap64 (Int.tdiv x8_1 16)) < (x6_1.length : Int) then (if 0 ≤ (IntKind.u64.wrap (Int.tmod x8_1 16)) then (r1_Divide.l0 k1 l0 l1 (x6_1.set ((wrap64 (Int.tdiv x8_1 16)) : Int).toNat (Go.bits .or .u64 (rd x6_1 (wrap64 (Int.tdiv x8_1 16))) (shl .u64 1 (IntKind.u64.wrap (Int.tmod x8_1 16))))) t578 (wrap64 (x8_1 - 1))) else (none)) else (none)) else (none))) else (r1_Divide.l0 k1 l0 l1 x6_1 t574 (wrap64 (x8_1 - 1)))))) = some (r1, r2) := by first | (rw [hy571]; with_reducible exact H) | (have H2_ := (Option.bind_some _ _).symm.trans H; rw [hy571]; with_reducible exact H2_) | (have H2_ := (Option.bind_some _ _).symm.trans H; with_reducible exact H2_) | with_reducible exact H | (rw [hy571]; exact H) | exact H
      have Ny571 := am hy571
      clear hy571
      replace H := Option.bind_eq_some_iff.mp H
      obtain ⟨t574, A130, H⟩ := H
      try dsimp only at H
      have A13 := am A130
      clear A130
      replace H := Option.bind_eq_some_iff.mp H
      obtain ⟨t577, A140, H⟩ := H
      try dsimp only at H
      have A14 := am A140
      clear A140
      by_cases c15 : t577 ≥ 0
      ·rw [if_pos c15] at H
       have c15b0 : decide (0 ≤ t577) = true := decide_eq_true c15
       clear c15
       replace H := Option.bind_eq_some_iff.mp H
       obtain ⟨t578, A160, H⟩ := H
       try dsimp only at H
       have A16 := am A160
       clear A160
       obtain ⟨ji17, hji17⟩ : ∃ j_ : Int, (wrap64 (Int.tdiv x8_1 16)) = j_ := ⟨_, rfl⟩
       replace H : (if 0 ≤ (ji17) then (if (ji17) < (x6_1.length : Int) then (if 0 ≤ (IntKind.u64.wrap (Int.tmod x8_1 16)) then (r1_Divide.l0 k1 l0 l1 (x6_1.set ((ji17) : Int).toNat (Go.bits .or .u64 (rd x6_1 (ji17)) (shl .u64 1 (IntKind.u64.wrap (Int.tmod x8_1 16))))) t578 (wrap64 (x8_1 - 1))) else (none)) else (none)) else (none)) = some (r1, r2) := by first | (rw [hji17] at H; exact H) | (simp only [hji17] at H ⊢; exact H)
       (try rw [hji17] at A11)
       (try rw [hji17] at A12)
       (try rw [hji17] at A13)
       (try rw [hji17] at A14)
       (try rw [hji17] at A16)
       have hji17w : (IntKind.i64.wrap (Int.tdiv x8_1 16)) = ji17 := (i64_w _).trans hji17
       by_cases c18 : 0 ≤ (ji17)
       ·rw [if_pos c18] at H
        have c18b0 : decide (0 ≤ (ji17)) = true := decide_eq_true c18
        clear c18
        by_cases c19 : (ji17) < (x6_1.length : Int)
        ·rw [if_pos c19] at H
         have c19b0 : decide ((ji17) < (x6_1.length : Int)) = true := decide_eq_true c19
         clear c19
         obtain ⟨ji20, hji20⟩ : ∃ j_ : Int, (IntKind.u64.wrap (Int.tmod x8_1 16)) = j_ := ⟨_, rfl⟩
         replace H : (if 0 ≤ (ji20) then (r1_Divide.l0 k1 l0 l1 (x6_1.set ((ji17) : Int).toNat (Go.bits .or .u64 (rd x6_1 (ji17)) (shl .u64 1 (ji20)))) t578 (wrap64 (x8_1 - 1))) else (none)) = some (r1, r2) := by first | (rw [hji20] at H; exact H) | (simp only [hji20] at H ⊢; exact H)
         (try rw [hji20] at A11)
         (try rw [hji20] at A12)
         (try rw [hji20] at A13)
         (try rw [hji20] at A14)
         (try rw [hji20] at A16)
         by_cases c21 : 0 ≤ (ji20)
         ·rw [if_pos c21] at H
          have c21b0 := eq_true c21
          have c21b1 : decide (0 ≤ (ji20)) = true := decide_eq_true c21
          clear c21
          obtain ⟨ji22, hji22⟩ : ∃ j_ : Int, (shl .u64 1 (ji20)) = j_ := ⟨_, rfl⟩
          replace H : (r1_Divide.l0 k1 l0 l1 (x6_1.set ((ji17) : Int).toNat (Go.bits .or .u64 (rd x6_1 (ji17)) (ji22))) t578 (wrap64 (x8_1 - 1))) = some (r1, r2) := by first | (rw [hji22] at H; exact H) | (simp only [hji22] at H ⊢; exact H)
          (try rw [hji22] at A11)
          (try rw [hji22] at A12)
          (try rw [hji22] at A13)
          (try rw [hji22] at A14)
          (try rw [hji22] at A16)
          have hji22_ : (IntKind.u64.wrap (1 * 2 ^ min (ji20).toNat 64)) = ji22 := hji22
          have hji22z : (ji20) ≤ 64 → (IntKind.u64.wrap (1 * 2 ^ (ji20).toNat)) = ji22 := shl_small hji22
          have hji22u : (IntKind.u64.wrap (2 ^ min (ji20).toNat 64)) = ji22 := by have h_ := hji22_; rw [Int.one_mul] at h_; exact h_
          have hji22v : (ji20) ≤ 64 → (IntKind.u64.wrap (2 ^ (ji20).toNat)) = ji22 := fun hle_ => by have h_ := hji22z hle_; rw [Int.one_mul] at h_; exact h_
          obtain ⟨y582, hy582⟩ : ∃ y_ : List Int, y_ = (x6_1.set ((ji17) : Int).toNat (Go.bits .or .u64 (rd x6_1 (ji17)) (ji22))) := ⟨_, rfl⟩
          replace H : (r1_Divide.l0 k1 l0 l1 y582 t578 (wrap64 (x8_1 - 1))) = some (r1, r2) := by first | (rw [hy582]; with_reducible exact H) | (have H2_ := (Option.bind_some _ _).symm.trans H; rw [hy582]; with_reducible exact H2_) | (have H2_ := (Option.bind_some _ _).symm.trans H; with_reducible exact H2_) | with_reducible exact H | (rw [hy582]; exact H) | exact H
          have Ny582 := am hy582
          clear hy582
          have H' := am H
          clear H
          obtain ⟨Ao24, co24, eo24⟩ := Kd.R_slice HO_7.out
          subst eo24
          go_wp2_with (first | ((with_reducible refine gate_callee (f := 27) rfl ?_); refine goesL_ (some 21) rfl rfl Tryd.func27 (by kernel_rfl) rfl #[.slice Ao24 x7_1.length co24, .int .i64 1] rfl pM ?_; (with_reducible refine (r1_Up.calls k1 _ _ x7_1 1 t567 _ ?side1 ?side2 A11.out).mono ?_); (case side1 => repeat (first | exact (Kd.R_reads' HO_7.out).2.2 | (with_reducible refine Kd.C_alloc ?_ _) | (with_reducible refine Kd.C_drewN ?_ _) | (with_reducible refine Kd.C_drew ?_))); (case side2 => exact (Kd.R_reads' HO_7.out).2.1); rintro e w25 ⟨v568, rfl, ho0, hb⟩; refine ⟨_, rfl, ?_⟩; have HO569 := am (Kd.R_lower (Kd.R_new' (Kd.R_new' ho0 (Kd.R_lt (pR HO_6.out))) (Kd.R_lt (pR HO_7.out))) (below_size pB)); replace HO_6 := am (Kd.R_elder' (pR HO_6.out) (Kd.R_base ho0) hb); replace HO_7 := am (Kd.R_elder' (pR HO_7.out) (Kd.R_base ho0) hb); replace HB := am (below_step pB hb); (try clear hb); (try clear ho0)) | ((with_reducible refine gate_callee (f := 51) rfl ?_); refine goesL_ (some 24) rfl rfl Tryd.func51 (by kernel_rfl) rfl #[.slice A0 l0.length c0, .int .i64 x8_1] rfl pM ?_; (with_reducible refine (r1_Bit.calls _ _ l0 x8_1 t570 _ ?side1 ?side2 A12.out).mono ?_); (case side1 => exact pC (Kd.C_below HR0.out HB.out)); (case side2 => exact HC0.out); rintro e w' ⟨rfl, ⟨nd, rfl⟩⟩; refine ⟨_, rfl, ?_⟩; (try (rw [drewN_self w25]; generalize hq_ : World.drewN w25 _ = w25; have n0_ : Aside0 (Kd.R (Kd.int .u64) 22 w25 w.heap.size (fun k_ => some k_ ≠ (v558 : Value).ownBlock ∧ some k_ ≠ (.slice Ao24 x7_1.length co24 : Value).ownBlock) v568 t567) := ⟨by rw [← hq_]; exact (by (with_reducible repeat (first | apply Kd.R_alloc | apply Kd.R_drewN | apply Kd.R_drew)); exact Kd.R_mono HO569.out (fun _ hk => by simp only [ne_eq] at hk ⊢; simp only [hk, not_false_eq_true, and_self]))⟩; have n1_ : Aside0 (Kd.R (Kd.int .u64) 22 w25 w.heap.size (fun k_ => some k_ ≠ (v568 : Value).ownBlock ∧ some k_ ≠ (.slice Ao24 x7_1.length co24 : Value).ownBlock) v558 x6_1) := ⟨by rw [← hq_]; exact (by (with_reducible repeat (first | apply Kd.R_alloc | apply Kd.R_drewN | apply Kd.R_drew)); exact Kd.R_mono HO_6.out (fun _ hk => by simp only [ne_eq] at hk ⊢; simp only [hk, not_false_eq_true, and_self]))⟩; have n2_ : Aside0 (Kd.R (Kd.int .u64) 22 w25 w.heap.size (fun k_ => some k_ ≠ (v568 : Value).ownBlock ∧ some k_ ≠ (v558 : Value).ownBlock) (.slice Ao24 x7_1.length co24) x7_1) := ⟨by rw [← hq_]; exact (by (with_reducible repeat (first | apply Kd.R_alloc | apply Kd.R_drewN | apply Kd.R_drew)); exact Kd.R_mono HO_7.out (fun _ hk => by simp only [ne_eq] at hk ⊢; simp only [hk, not_false_eq_true, and_self]))⟩; have n3_ : Aside0 (Below w.heap.size w w25) := ⟨by rw [← hq_]; exact pB⟩; clear HO569 HO_6 HO_7 HB hq_; have HO569 := n0_; have HO_6 := n1_; have HO_7 := n2_; have HB := n3_; clear n0_ n1_ n2_ n3_))) | ((with_reducible refine gate_dst (N := 25) rfl ?_); refine Kd.R_lit (Kd.int .u64) _ 22 ?hg (N := 25) ?hd (xs := ([t570] : List Int)) (inner := [.int .u64 t570]) (ok := fun _ => True) (okp := fun _ => True) ?hr ?hp (fun _ hk => hk) trivial (Below.refl _ _) (Nat.le_refl _) (by simp) ?_; (case hd => rfl); (case hg => rfl); (case hr => first | (go_simp; done) | (go_simp; rfl)); (case hp => exact (Reps.one (show Kd.M (Kd.int .u64) _ _ _ t570 [.int .u64 t570] from rfl) (Reps.none _ _))); intro v572 w26 ho27 hb hg_ hnew_; clear hg_ hnew_; (first | rw [← Ny571.out] at ho27 | (simp only [Int.reduceToNat] at ho27; rw [← Ny571.out] at ho27)); have HO573 := am (Kd.R_lower (Kd.R_new' (Kd.R_new' (Kd.R_new' ho27 (Kd.R_lt (pR HO_6.out))) (Kd.R_lt (pR HO_7.out))) (Kd.R_lt (pR HO569.out))) (below_size pB)); replace HO_6 := am (Kd.R_elder' (pR HO_6.out) (Kd.R_base ho27) hb); replace HO_7 := am (Kd.R_elder' (pR HO_7.out) (Kd.R_base ho27) hb); replace HO569 := am (Kd.R_elder' (pR HO569.out) (Kd.R_base ho27) hb); replace HB := am (below_step pB hb); clear hb ho27; obtain ⟨Ao28, co28, eo28⟩ := Kd.R_slice HO569.out; subst eo28; obtain ⟨Ao29, co29, eo29⟩ := Kd.R_slice HO573.out; subst eo29) | ((with_reducible refine gate_callee (f := 46) rfl ?_); refine goesL_ (some 26) rfl rfl Tryd.func46 (by kernel_rfl) rfl #[.slice Ao28 t567.length co28, .slice Ao29 y571.length co29] rfl pM ?_; (with_reducible refine (r1_Sum.calls k1 _ _ t567 _ _ y571 t574 _ ?side1 ?side2 ?side3 ?side4 A13.out).mono ?_); (case side1 => repeat (first | exact (Kd.R_reads' HO569.out).2.2 | (with_reducible refine Kd.C_alloc ?_ _) | (with_reducible refine Kd.C_drewN ?_ _) | (with_reducible refine Kd.C_drew ?_))); (case side2 => exact (Kd.R_reads' HO569.out).2.1); (case side3 => repeat (first | exact (Kd.R_reads' HO573.out).2.2 | (with_reducible refine Kd.C_alloc ?_ _) | (with_reducible refine Kd.C_drewN ?_ _) | (with_reducible refine Kd.C_drew ?_))); (case side4 => exact (Kd.R_reads' HO573.out).2.1); rintro e w30 ⟨v575, rfl, ho0, hb⟩; refine ⟨_, rfl, ?_⟩; have HO576 := am (Kd.R_lower (Kd.R_new' (Kd.R_new' (Kd.R_new' (Kd.R_new' ho0 (Kd.R_lt (pR HO_6.out))) (Kd.R_lt (pR HO_7.out))) (Kd.R_lt (pR HO569.out))) (Kd.R_lt (pR HO573.out))) (below_size pB)); replace HO_6 := am (Kd.R_elder' (pR HO_6.out) (Kd.R_base ho0) hb); replace HO_7 := am (Kd.R_elder' (pR HO_7.out) (Kd.R_base ho0) hb); replace HO569 := am (Kd.R_elder' (pR HO569.out) (Kd.R_base ho0) hb); replace HO573 := am (Kd.R_elder' (pR HO573.out) (Kd.R_base ho0) hb); replace HB := am (below_step pB hb); (try clear hb); (try clear ho0); obtain ⟨Ao31, co31, eo31⟩ := Kd.R_slice HO576.out; subst eo31) | ((with_reducible refine gate_callee (f := 52) rfl ?_); refine goesL_ (some 29) rfl rfl Tryd.func52 (by kernel_rfl) rfl #[.slice Ao31 t574.length co31, .slice A1 l1.length c1] rfl pM ?_; (with_reducible refine (r1_Cmp.calls k1 _ _ t574 _ _ l1 t577 _ ?side1 ?side2 ?side3 ?side4 A14.out).mono ?_); (case side1 => repeat (first | exact (Kd.R_reads' HO576.out).2.2 | (with_reducible refine Kd.C_alloc ?_ _) | (with_reducible refine Kd.C_drewN ?_ _) | (with_reducible refine Kd.C_drew ?_))); (case side2 => exact (Kd.R_reads' HO576.out).2.1); (case side3 => exact pC (Kd.C_below HR1.out HB.out)); (case side4 => exact HC1.out); rintro e w' ⟨rfl, ⟨nd, rfl⟩⟩; refine ⟨_, rfl, ?_⟩; (try (rw [drewN_self w30]; generalize hq_ : World.drewN w30 _ = w30; have n0_ : Aside0 (Kd.R (Kd.int .u64) 22 w30 w.heap.size (fun k_ => some k_ ≠ (.slice Ao29 y571.length co29 : Value).ownBlock ∧ some k_ ≠ (.slice Ao31 t574.length co31 : Value).ownBlock ∧ some k_ ≠ (v558 : Value).ownBlock ∧ some k_ ≠ (.slice Ao24 x7_1.length co24 : Value).ownBlock) (.slice Ao28 t567.length co28) t567) := ⟨by rw [← hq_]; exact (by (with_reducible repeat (first | apply Kd.R_alloc | apply Kd.R_drewN | apply Kd.R_drew)); exact Kd.R_mono HO569.out (fun _ hk => by simp only [ne_eq] at hk ⊢; simp only [hk, not_false_eq_true, and_self]))⟩; have n1_ : Aside0 (Kd.R (Kd.int .u64) 22 w30 w.heap.size (fun k_ => some k_ ≠ (.slice Ao28 t567.length co28 : Value).ownBlock ∧ some k_ ≠ (.slice Ao31 t574.length co31 : Value).ownBlock ∧ some k_ ≠ (v558 : Value).ownBlock ∧ some k_ ≠ (.slice Ao24 x7_1.length co24 : Value).ownBlock) (.slice Ao29 y571.length co29) y571) := ⟨by rw [← hq_]; exact (by (with_reducible repeat (first | apply Kd.R_alloc | apply Kd.R_drewN | apply Kd.R_drew)); exact Kd.R_mono HO573.out (fun _ hk => by simp only [ne_eq] at hk ⊢; simp only [hk, not_false_eq_true, and_self]))⟩; have n2_ : Aside0 (Kd.R (Kd.int .u64) 22 w30 w.heap.size (fun k_ => some k_ ≠ (.slice Ao28 t567.length co28 : Value).ownBlock ∧ some k_ ≠ (.slice Ao29 y571.length co29 : Value).ownBlock ∧ some k_ ≠ (v558 : Value).ownBlock ∧ some k_ ≠ (.slice Ao24 x7_1.length co24 : Value).ownBlock) (.slice Ao31 t574.length co31) t574) := ⟨by rw [← hq_]; exact (by (with_reducible repeat (first | apply Kd.R_alloc | apply Kd.R_drewN | apply Kd.R_drew)); exact Kd.R_mono HO576.out (fun _ hk => by simp only [ne_eq] at hk ⊢; simp only [hk, not_false_eq_true, and_self]))⟩; have n3_ : Aside0 (Kd.R (Kd.int .u64) 22 w30 w.heap.size (fun k_ => some k_ ≠ (.slice Ao28 t567.length co28 : Value).ownBlock ∧ some k_ ≠ (.slice Ao29 y571.length co29 : Value).ownBlock ∧ some k_ ≠ (.slice Ao31 t574.length co31 : Value).ownBlock ∧ some k_ ≠ (.slice Ao24 x7_1.length co24 : Value).ownBlock) v558 x6_1) := ⟨by rw [← hq_]; exact (by (with_reducible repeat (first | apply Kd.R_alloc | apply Kd.R_drewN | apply Kd.R_drew)); exact Kd.R_mono HO_6.out (fun _ hk => by simp only [ne_eq] at hk ⊢; simp only [hk, not_false_eq_true, and_self]))⟩; have n4_ : Aside0 (Kd.R (Kd.int .u64) 22 w30 w.heap.size (fun k_ => some k_ ≠ (.slice Ao28 t567.length co28 : Value).ownBlock ∧ some k_ ≠ (.slice Ao29 y571.length co29 : Value).ownBlock ∧ some k_ ≠ (.slice Ao31 t574.length co31 : Value).ownBlock ∧ some k_ ≠ (v558 : Value).ownBlock) (.slice Ao24 x7_1.length co24) x7_1) := ⟨by rw [← hq_]; exact (by (with_reducible repeat (first | apply Kd.R_alloc | apply Kd.R_drewN | apply Kd.R_drew)); exact Kd.R_mono HO_7.out (fun _ hk => by simp only [ne_eq] at hk ⊢; simp only [hk, not_false_eq_true, and_self]))⟩; have n5_ : Aside0 (Below w.heap.size w w30) := ⟨by rw [← hq_]; exact pB⟩; clear HO569 HO573 HO576 HO_6 HO_7 HB hq_; have HO569 := n0_; have HO573 := n1_; have HO576 := n2_; have HO_6 := n3_; have HO_7 := n4_; have HB := n5_; clear n0_ n1_ n2_ n3_ n4_ n5_))) | ((with_reducible refine gate_callee (f := 53) rfl ?_); refine goesL_ (some 33) rfl rfl Tryd.func53 (by kernel_rfl) rfl #[.slice Ao31 t574.length co31, .slice A1 l1.length c1] rfl pM ?_; (with_reducible refine (r1_Minus.calls k1 _ _ t574 _ _ l1 t578 _ ?side1 ?side2 ?side3 ?side4 A16.out).mono ?_); (case side1 => repeat (first | exact (Kd.R_reads' HO576.out).2.2 | (with_reducible refine Kd.C_alloc ?_ _) | (with_reducible refine Kd.C_drewN ?_ _) | (with_reducible refine Kd.C_drew ?_))); (case side2 => exact (Kd.R_reads' HO576.out).2.1); (case side3 => exact pC (Kd.C_below HR1.out HB.out)); (case side4 => exact HC1.out); rintro e w32 ⟨v579, rfl, ho0, hb⟩; refine ⟨_, rfl, ?_⟩; have HO580 := am (Kd.R_lower (Kd.R_new' (Kd.R_new' (Kd.R_new' (Kd.R_new' (Kd.R_new' ho0 (Kd.R_lt (pR HO_6.out))) (Kd.R_lt (pR HO_7.out))) (Kd.R_lt (pR HO569.out))) (Kd.R_lt (pR HO573.out))) (Kd.R_lt (pR HO576.out))) (below_size pB)); replace HO_6 := am (Kd.R_elder' (pR HO_6.out) (Kd.R_base ho0) hb); replace HO_7 := am (Kd.R_elder' (pR HO_7.out) (Kd.R_base ho0) hb); replace HO569 := am (Kd.R_elder' (pR HO569.out) (Kd.R_base ho0) hb); replace HO573 := am (Kd.R_elder' (pR HO573.out) (Kd.R_base ho0) hb); replace HO576 := am (Kd.R_elder' (pR HO576.out) (Kd.R_base ho0) hb); replace HB := am (below_step pB hb); (try clear hb); (try clear ho0); obtain ⟨Ao33, co33, eo33⟩ := Kd.R_slice HO_6.out; subst eo33; have p581 : 0 ≤ ((ji17) : Int) := pD; have q581 : (ji17) < (x6_1.length : Int) := pD; obtain ⟨ad581, e581, hx581_0⟩ := Kd.at_int (Kd.R_reads' HO_6.out).2.2 (ji17) p581 q581; cases e581; replace p581 := eq_true p581; replace q581 := eq_true q581; have p23 : 0 ≤ ((ji17) : Int) := pD; have q23 : ((ji17) : Int) < ((x6_1.length : Int) : Int) := pD; obtain ⟨go23, co23, eo23, gb23, gl23, cl23, HG23⟩ := Kd.R_form HO_6.out (by omega); (first | cases eo23 | (injection eo23 with ea_ en_ ec_; (first | subst ea_ | (injection ea_ with ea_; subst ea_)); subst ec_; clear en_)); have GB23 := am gb23; have GG23 := am HG23; clear gb23 gl23 HG23; (first | simp only [add_plain] at hx581_0 | skip); obtain ⟨hx23_0, hf23_0⟩ := Kd.R_celln 0 HO_6.out ((ji17) : Int) p23 q23; replace p23 := eq_true p23; replace q23 := eq_true q23; have n_ := am (Kd.R_mono (ok' := (fun k_ => some k_ ≠ (.slice Ao24 x7_1.length co24 : Value).ownBlock ∧ some k_ ≠ (.slice Ao28 t567.length co28 : Value).ownBlock ∧ some k_ ≠ (.slice Ao29 y571.length co29 : Value).ownBlock ∧ some k_ ≠ (.slice Ao31 t574.length co31 : Value).ownBlock ∧ some k_ ≠ (v579 : Value).ownBlock)) HO_6.out (fun k_ hk => by simp only [ne_eq] at hk ⊢; simp only [hk, not_false_eq_true, and_self])); clear HO_6; have HO_6 := n_; clear n_; obtain ⟨hy34_, hz34_⟩ := Kd.R_celln 0 HO_6.out ((ji17) : Int) pD pD; have HP34 := Kd.R_putg HO_6.out ((ji17) : Int) (Go.bits .or .u64 (rd x6_1 (ji17)) (ji22))) | ((with_reducible refine gate_store (t := 22) (p := 47) rfl ?_); refine store_event (t := 22) (p := 47) (v := ?vo_w35) (w1 := (w32.setCell ⟨go23, ((ji17) : Int).toNat, none⟩ (.int .u64 (Go.bits .or .u64 (rd x6_1 (ji17)) (ji22))))) ?hg ?ho ?hn ?hr ?_; (case ho => rfl); (case hg => rfl); (case hn => rfl); (case hr => first | (go_simp; done) | (go_simp; rfl)); intro w35 hw; have hg : w32.grownBy w35 (some go23) := (by rw [hw]; exact HP34.2); have hp_ : Kd.R (Kd.int .u64) 22 w35 w.heap.size (fun k_ => some k_ ≠ (.slice Ao24 x7_1.length co24 : Value).ownBlock ∧ some k_ ≠ (.slice Ao28 t567.length co28 : Value).ownBlock ∧ some k_ ≠ (.slice Ao29 y571.length co29 : Value).ownBlock ∧ some k_ ≠ (.slice Ao31 t574.length co31 : Value).ownBlock ∧ some k_ ≠ (v579 : Value).ownBlock) (.slice (some ⟨go23, 0, none⟩) x6_1.length co33) y582 := (by rw [hw, Ny582.out]; exact HP34.1); clear HP34; replace HO_6 := am (hp_); replace HO_7 := am (Kd.R_after (v := (.slice (some ⟨go23, 0, none⟩) x6_1.length co33)) (v1 := (.slice (some ⟨go23, 0, none⟩) x6_1.length co33)) (ok := (fun k_ => some k_ ≠ (.slice Ao28 t567.length co28 : Value).ownBlock ∧ some k_ ≠ (.slice Ao29 y571.length co29 : Value).ownBlock ∧ some k_ ≠ (.slice Ao31 t574.length co31 : Value).ownBlock ∧ some k_ ≠ (v579 : Value).ownBlock)) (by (with_reducible repeat (first | apply Kd.R_alloc | apply Kd.R_drewN | apply Kd.R_drew)); exact Kd.R_mono HO_7.out (fun _ hk => by simp only [ne_eq] at hk ⊢; simp only [hk, not_false_eq_true, and_self])) hg (.inl rfl)); replace HO569 := am (Kd.R_after (v := (.slice (some ⟨go23, 0, none⟩) x6_1.length co33)) (v1 := (.slice (some ⟨go23, 0, none⟩) x6_1.length co33)) (ok := (fun k_ => some k_ ≠ (.slice Ao24 x7_1.length co24 : Value).ownBlock ∧ some k_ ≠ (.slice Ao29 y571.length co29 : Value).ownBlock ∧ some k_ ≠ (.slice Ao31 t574.length co31 : Value).ownBlock ∧ some k_ ≠ (v579 : Value).ownBlock)) (by (with_reducible repeat (first | apply Kd.R_alloc | apply Kd.R_drewN | apply Kd.R_drew)); exact Kd.R_mono HO569.out (fun _ hk => by simp only [ne_eq] at hk ⊢; simp only [hk, not_false_eq_true, and_self])) hg (.inl rfl)); replace HO573 := am (Kd.R_after (v := (.slice (some ⟨go23, 0, none⟩) x6_1.length co33)) (v1 := (.slice (some ⟨go23, 0, none⟩) x6_1.length co33)) (ok := (fun k_ => some k_ ≠ (.slice Ao24 x7_1.length co24 : Value).ownBlock ∧ some k_ ≠ (.slice Ao28 t567.length co28 : Value).ownBlock ∧ some k_ ≠ (.slice Ao31 t574.length co31 : Value).ownBlock ∧ some k_ ≠ (v579 : Value).ownBlock)) (by (with_reducible repeat (first | apply Kd.R_alloc | apply Kd.R_drewN | apply Kd.R_drew)); exact Kd.R_mono HO573.out (fun _ hk => by simp only [ne_eq] at hk ⊢; simp only [hk, not_false_eq_true, and_self])) hg (.inl rfl)); replace HO576 := am (Kd.R_after (v := (.slice (some ⟨go23, 0, none⟩) x6_1.length co33)) (v1 := (.slice (some ⟨go23, 0, none⟩) x6_1.length co33)) (ok := (fun k_ => some k_ ≠ (.slice Ao24 x7_1.length co24 : Value).ownBlock ∧ some k_ ≠ (.slice Ao28 t567.length co28 : Value).ownBlock ∧ some k_ ≠ (.slice Ao29 y571.length co29 : Value).ownBlock ∧ some k_ ≠ (v579 : Value).ownBlock)) (by (with_reducible repeat (first | apply Kd.R_alloc | apply Kd.R_drewN | apply Kd.R_drew)); exact Kd.R_mono HO576.out (fun _ hk => by simp only [ne_eq] at hk ⊢; simp only [hk, not_false_eq_true, and_self])) hg (.inl rfl)); replace HO580 := am (Kd.R_after (v := (.slice (some ⟨go23, 0, none⟩) x6_1.length co33)) (v1 := (.slice (some ⟨go23, 0, none⟩) x6_1.length co33)) (ok := (fun k_ => some k_ ≠ (.slice Ao24 x7_1.length co24 : Value).ownBlock ∧ some k_ ≠ (.slice Ao28 t567.length co28 : Value).ownBlock ∧ some k_ ≠ (.slice Ao29 y571.length co29 : Value).ownBlock ∧ some k_ ≠ (.slice Ao31 t574.length co31 : Value).ownBlock)) (by (with_reducible repeat (first | apply Kd.R_alloc | apply Kd.R_drewN | apply Kd.R_drew)); exact Kd.R_mono HO580.out (fun _ hk => by simp only [ne_eq] at hk ⊢; simp only [hk, not_false_eq_true, and_self])) hg (.inl rfl)); replace HB := am ((by rw [hw]; exact below_set (HB.out) GB23.out : Below w.heap.size w w35)); clear hg hw hp_))
          go_roundg k1
          case measure => have := HK1.out; omega
          case rel => exact ⟨(y582), (t578), (wrap64 (x8_1 - 1)), (by first | rfl | (simp; done) | (simp [*]; done)), H', ⟨by have := HK1.out; omega⟩, ⟨by (with_reducible repeat (first | apply Kd.R_alloc | apply Kd.R_drewN | apply Kd.R_drew)); exact Kd.R_mono HO_6.out (fun _ hk => hk.2.2.2.2)⟩, ⟨by (with_reducible repeat (first | apply Kd.R_alloc | apply Kd.R_drewN | apply Kd.R_drew)); exact Kd.R_mono HO580.out (fun _ hk => hk.2)⟩, ⟨pB⟩⟩
         ·rw [if_neg c21] at H
          exact absurd H (by simp)
        ·rw [if_neg c19] at H
         exact absurd H (by simp)
       ·rw [if_neg c18] at H
        exact absurd H (by simp)
      ·rw [if_neg c15] at H
       have c15b0 : decide (0 ≤ t577) = false := decide_eq_false c15
       clear c15
       have H' := am H
       clear H
       obtain ⟨Ao36, co36, eo36⟩ := Kd.R_slice HO_7.out
       subst eo36
       go_wp2_with (first | ((with_reducible refine gate_callee (f := 27) rfl ?_); refine goesL_ (some 21) rfl rfl Tryd.func27 (by kernel_rfl) rfl #[.slice Ao36 x7_1.length co36, .int .i64 1] rfl pM ?_; (with_reducible refine (r1_Up.calls k1 _ _ x7_1 1 t567 _ ?side1 ?side2 A11.out).mono ?_); (case side1 => repeat (first | exact (Kd.R_reads' HO_7.out).2.2 | (with_reducible refine Kd.C_alloc ?_ _) | (with_reducible refine Kd.C_drewN ?_ _) | (with_reducible refine Kd.C_drew ?_))); (case side2 => exact (Kd.R_reads' HO_7.out).2.1); rintro e w37 ⟨v568, rfl, ho0, hb⟩; refine ⟨_, rfl, ?_⟩; have HO569 := am (Kd.R_lower (Kd.R_new' (Kd.R_new' ho0 (Kd.R_lt (pR HO_6.out))) (Kd.R_lt (pR HO_7.out))) (below_size pB)); replace HO_6 := am (Kd.R_elder' (pR HO_6.out) (Kd.R_base ho0) hb); replace HO_7 := am (Kd.R_elder' (pR HO_7.out) (Kd.R_base ho0) hb); replace HB := am (below_step pB hb); (try clear hb); (try clear ho0)) | ((with_reducible refine gate_callee (f := 51) rfl ?_); refine goesL_ (some 24) rfl rfl Tryd.func51 (by kernel_rfl) rfl #[.slice A0 l0.length c0, .int .i64 x8_1] rfl pM ?_; (with_reducible refine (r1_Bit.calls _ _ l0 x8_1 t570 _ ?side1 ?side2 A12.out).mono ?_); (case side1 => exact pC (Kd.C_below HR0.out HB.out)); (case side2 => exact HC0.out); rintro e w' ⟨rfl, ⟨nd, rfl⟩⟩; refine ⟨_, rfl, ?_⟩) | ((with_reducible refine gate_dst (N := 25) rfl ?_); refine Kd.R_lit (Kd.int .u64) _ 22 ?hg (N := 25) ?hd (xs := ([t570] : List Int)) (inner := [.int .u64 t570]) (ok := fun _ => True) (okp := fun _ => True) ?hr ?hp (fun _ hk => hk) trivial (Below.refl _ _) (Nat.le_refl _) (by simp) ?_; (case hd => rfl); (case hg => rfl); (case hr => first | (go_simp; done) | (go_simp; rfl)); (case hp => exact (Reps.one (show Kd.M (Kd.int .u64) _ _ _ t570 [.int .u64 t570] from rfl) (Reps.none _ _))); intro v572 w38 ho39 hb hg_ hnew_; clear hg_ hnew_; (first | rw [← Ny571.out] at ho39 | (simp only [Int.reduceToNat] at ho39; rw [← Ny571.out] at ho39)); have HO573 := am (Kd.R_lower (Kd.R_new' (Kd.R_new' (Kd.R_new' ho39 (Kd.R_lt (pR HO_6.out))) (Kd.R_lt (pR HO_7.out))) (Kd.R_lt (pR HO569.out))) (below_size pB)); replace HO_6 := am (Kd.R_elder' (pR HO_6.out) (Kd.R_base ho39) hb); replace HO_7 := am (Kd.R_elder' (pR HO_7.out) (Kd.R_base ho39) hb); replace HO569 := am (Kd.R_elder' (pR HO569.out) (Kd.R_base ho39) hb); replace HB := am (below_step pB hb); clear hb ho39; obtain ⟨Ao40, co40, eo40⟩ := Kd.R_slice HO569.out; subst eo40; obtain ⟨Ao41, co41, eo41⟩ := Kd.R_slice HO573.out; subst eo41) | ((with_reducible refine gate_callee (f := 46) rfl ?_); refine goesL_ (some 26) rfl rfl Tryd.func46 (by kernel_rfl) rfl #[.slice Ao40 t567.length co40, .slice Ao41 y571.length co41] rfl pM ?_; (with_reducible refine (r1_Sum.calls k1 _ _ t567 _ _ y571 t574 _ ?side1 ?side2 ?side3 ?side4 A13.out).mono ?_); (case side1 => repeat (first | exact (Kd.R_reads' HO569.out).2.2 | (with_reducible refine Kd.C_alloc ?_ _) | (with_reducible refine Kd.C_drewN ?_ _) | (with_reducible refine Kd.C_drew ?_))); (case side2 => exact (Kd.R_reads' HO569.out).2.1); (case side3 => repeat (first | exact (Kd.R_reads' HO573.out).2.2 | (with_reducible refine Kd.C_alloc ?_ _) | (with_reducible refine Kd.C_drewN ?_ _) | (with_reducible refine Kd.C_drew ?_))); (case side4 => exact (Kd.R_reads' HO573.out).2.1); rintro e w42 ⟨v575, rfl, ho0, hb⟩; refine ⟨_, rfl, ?_⟩; have HO576 := am (Kd.R_lower (Kd.R_new' (Kd.R_new' (Kd.R_new' (Kd.R_new' ho0 (Kd.R_lt (pR HO_6.out))) (Kd.R_lt (pR HO_7.out))) (Kd.R_lt (pR HO569.out))) (Kd.R_lt (pR HO573.out))) (below_size pB)); replace HO_6 := am (Kd.R_elder' (pR HO_6.out) (Kd.R_base ho0) hb); replace HO_7 := am (Kd.R_elder' (pR HO_7.out) (Kd.R_base ho0) hb); replace HO569 := am (Kd.R_elder' (pR HO569.out) (Kd.R_base ho0) hb); replace HO573 := am (Kd.R_elder' (pR HO573.out) (Kd.R_base ho0) hb); replace HB := am (below_step pB hb); (try clear hb); (try clear ho0); obtain ⟨Ao43, co43, eo43⟩ := Kd.R_slice HO576.out; subst eo43) | ((with_reducible refine gate_callee (f := 52) rfl ?_); refine goesL_ (some 29) rfl rfl Tryd.func52 (by kernel_rfl) rfl #[.slice Ao43 t574.length co43, .slice A1 l1.length c1] rfl pM ?_; (with_reducible refine (r1_Cmp.calls k1 _ _ t574 _ _ l1 t577 _ ?side1 ?side2 ?side3 ?side4 A14.out).mono ?_); (case side1 => repeat (first | exact (Kd.R_reads' HO576.out).2.2 | (with_reducible refine Kd.C_alloc ?_ _) | (with_reducible refine Kd.C_drewN ?_ _) | (with_reducible refine Kd.C_drew ?_))); (case side2 => exact (Kd.R_reads' HO576.out).2.1); (case side3 => exact pC (Kd.C_below HR1.out HB.out)); (case side4 => exact HC1.out); rintro e w' ⟨rfl, ⟨nd, rfl⟩⟩; refine ⟨_, rfl, ?_⟩))
       go_roundg k1
       case measure => have := HK1.out; omega
       case rel => exact ⟨(x6_1), (t574), (wrap64 (x8_1 - 1)), (by first | rfl | (simp; done) | (simp [*]; done)), H', ⟨by have := HK1.out; omega⟩, ⟨by (with_reducible repeat (first | apply Kd.R_alloc | apply Kd.R_drewN | apply Kd.R_drew)); exact Kd.R_mono HO_6.out (fun _ hk => hk.2)⟩, ⟨by (with_reducible repeat (first | apply Kd.R_alloc | apply Kd.R_drewN | apply Kd.R_drew)); exact Kd.R_mono HO576.out (fun _ hk => hk.1.1.1.2)⟩, ⟨pB⟩⟩
     ·rw [if_neg c10] at H
      have c10b0 : decide (0 ≤ x8_1) = false := decide_eq_false c10
      clear c10
      replace H := Option.bind_eq_some_iff.mp H
      obtain ⟨t564, A440, H⟩ := H
      try dsimp only at H
      have A44 := am A440
      clear A440
      simp only [Option.some.injEq, Prod.mk.injEq] at H
      obtain ⟨rfl, rfl⟩ := H
      obtain ⟨Ao45, co45, eo45⟩ := Kd.R_slice HO_6.out
      subst eo45
      go_wp2_with (first | ((with_reducible refine gate_callee (f := 50) rfl ?_); refine goesL_ (some 49) rfl rfl Tryd.func50 (by kernel_rfl) rfl #[.slice Ao45 x6_1.length co45] rfl pM ?_; (with_reducible refine (r1_Trim.calls k1 _ _ x6_1 t564 _ ?side1 ?side2 A44.out).mono ?_); (case side1 => repeat (first | exact (Kd.R_reads' HO_6.out).2.2 | (with_reducible refine Kd.C_alloc ?_ _) | (with_reducible refine Kd.C_drewN ?_ _) | (with_reducible refine Kd.C_drew ?_))); (case side2 => exact (Kd.R_reads' HO_6.out).2.1); rintro e w46 ⟨v565, rfl, ho0, hb⟩; refine ⟨_, rfl, ?_⟩; have HO566 := am (Kd.R_lower (Kd.R_new' (Kd.R_new' ho0 (Kd.R_lt (pR HO_6.out))) (Kd.R_lt (pR HO_7.out))) (below_size pB)); replace HO_6 := am (Kd.R_elder' (pR HO_6.out) (Kd.R_base ho0) hb); replace HO_7 := am (Kd.R_elder' (pR HO_7.out) (Kd.R_base ho0) hb); replace HB := am (below_step pB hb); (try clear hb); (try clear ho0)))
      go_ret2
      exact ⟨_, _, pE, by (with_reducible repeat (first | apply Kd.R_alloc | apply Kd.R_drewN | apply Kd.R_drew)); exact Kd.R_mono HO566.out (fun _ hk => hk.2), by (with_reducible repeat (first | apply Kd.R_alloc | apply Kd.R_drewN | apply Kd.R_drew)); exact Kd.R_mono HO_7.out (fun _ hk => hk.2), pB⟩
  ·rw [if_neg c4] at H
   exact absurd H (by simp)
 ·rw [if_neg c3] at H
  exact absurd H (by simp)
end Go.Proofs.YtflcanpajgpghaaDoor.Pr
end
section
namespace Go.Proofs.YtflcanpajgpghaaDoor.Pr
open Go.RowKit Go.Proofs.YtflcanpajgpghaaDoorW.PrintWords Go.Proofs.YtflcanpajgpghaaDoorW.PrintLast Go.Proofs.YtflcanpajgpghaaDoorW.PrintMore
attribute [local go_sem] max2_int min2_int max_two min_two max_three min_three max_four min_four
def r5_Near.j0 : Nat → List Int → Bool → ByteArray → Int → Option (Int)
 | 0, _, _, _, _ => none
 | k + 1, x3, x18, x584000, x584001 => if x18 = true then (some 0) else (if x584001 > 400 then ((r1_Infinite.f false).bind fun t587 => (some t587)) else (if x584001 ≥ 0 then ((r5_Ten.f k x584001).bind fun t588 => ((r1_Product.f k x3 t588).bind fun t591 => ((r1_Round.f k false 0 t591 false).bind fun t594 => (some t594)))) else ((r5_Ten.f k (wrap64 (-x584001))).bind fun t595 => ((r1_Len.f k t595).bind fun t598 => ((r1_Len.f k x3).bind fun t599 => (if (wrap64 ((wrap64 (t598 - t599)) + 70)) < 0 then ((r1_Up.f k x3 0).bind fun t600 => ((r1_Divide.f k t600 t595).bind fun bt603 => ((r1_Round.f k false 0 bt603.1 (decide ((bt603.2.length : Int) > 0))).bind fun t609 => (some t609)))) else ((r1_Up.f k x3 (wrap64 ((wrap64 (t598 - t599)) + 70))).bind fun t610 => ((r1_Divide.f k t610 t595).bind fun bt613 => ((r1_Round.f k false (wrap64 (-(wrap64 ((wrap64 (t598 - t599)) + 70)))) bt613.1 (decide ((bt613.2.length : Int) > 0))).bind fun t619 => (some t619))))))))))
def r5_Near.f (k : Nat) (a0_0 : ByteArray) (a0_1 : Int) : Option (Int) := (r5_Whole.f k a0_0).bind fun t584 => (if (t584.length : Int) = 0 then (r5_Near.j0 k t584 true a0_0 a0_1) else (r5_Near.j0 k t584 (decide (a0_1 < (-1000))) a0_0 a0_1))
set_option maxHeartbeats 8000000 in
set_option maxRecDepth 100000 in
theorem r5_Near.calls (k : Nat) (a0_0 : ByteArray) (a0_1 : Int) (r : Int) (w : World) (h : r5_Near.f k a0_0 a0_1 = some r) :
  Calls Tryd.prog 11 #[.agg #[.string a0_0, .int .i64 a0_1]] w fun e w' => e = .returned (.int .u64 r) ∧ Below w.heap.size w w' := by
 have hu31 := Tryd.underlying31
 have HB := am (Below.refl w.heap.size w)
 have H : ((r5_Whole.f k a0_0).bind fun t584 => (if (t584.length : Int) = 0 then (r5_Near.j0 k t584 true a0_0 a0_1) else (r5_Near.j0 k t584 (decide (a0_1 < (-1000))) a0_0 a0_1))) = some r := h
 clear h
 replace H := Option.bind_eq_some_iff.mp H
 obtain ⟨t584, A20, H⟩ := H
 try dsimp only at H
 have A2 := am A20
 clear A20
 have HC3 := am H
 clear H
 go_enter Tryd.func11, Tryd.ntmps11
 go_upto_region 2 with (first | ((with_reducible refine gate_dst (N := 1) rfl ?_); refine box_event ?hg (N := 1) ?hd (cs := #[.string a0_0, .int .i64 a0_1]) (t := 31) ?hr ?_; (case hd => rfl); (case hg => rfl); (case hr => first | (go_simp; done) | (go_simp; rfl)); intro gb583 hg w4 hbox hb; have BK583 := am (hbox); have GW583 := am ((by rw [hg]; exact (below_size pB) : w.heap.size ≤ gb583)); have GE583 := am ((by rw [hg]; exact (below_size pB) : w.heap.size ≤ gb583)); replace HB := am (below_step pB hb); clear hb hbox hg; have q5 := cf2 BK583.out) | ((with_reducible refine gate_callee (f := 20) rfl ?_); refine goesL_ (some 10) rfl rfl Tryd.func20 (by kernel_rfl) rfl #[.string a0_0] rfl pM ?_; (with_reducible refine (r5_Whole.calls k a0_0 t584 _ A2.out).mono ?_); rintro e w6 ⟨v585, rfl, ho0, hb⟩; refine ⟨_, rfl, ?_⟩; have HO586 := am (Kd.R_lower ho0 (below_size pB)); replace BK583 := am (pkb BK583.out hb); replace HB := am (below_step pB hb); (try clear hb); (try clear ho0)))
 (try simp only [Act.put, List.setIfInBounds_toArray, List.set_cons_zero, List.set_cons_succ])
 go_cut [18] (fun v18 wc => ∃ (kq : Nat) (x18_2 : Bool), v18 = .bool x18_2 ∧ Aside0 (r5_Near.j0 kq t584 x18_2 a0_0 a0_1 = some r) ∧ Aside0 (kq ≤ k) ∧ Aside0 (Kd.R (Kd.int .u64) 22 wc w.heap.size (fun _ => True) v585 t584) ∧ Aside0 (wc.heap[gb583]? = some (.cells #[.string a0_0, .int .i64 a0_1] 31 (0, 0))) ∧ Aside0 (Below w.heap.size w wc))
 case first =>
  have H := HC3.out
  clear HC3
  by_cases c7 : (t584.length : Int) = 0
  ·rw [if_pos c7] at H
   have c7b0 : ((t584.length : Int) == 0) = true := beq_iff_eq.mpr c7
   have c7b1 : ((t584.length : Int) != 0) = false := bne_eq_false_iff_eq.mpr c7
   clear c7
   (first | rw [c7b0] | (simp only [i64_w, i32_w]; rw [c7b0]) | rw [c7b1] | (simp only [i64_w, i32_w]; rw [c7b1]) | skip)
   have H' := am H
   clear H
   obtain ⟨Ao8, co8, eo8⟩ := Kd.R_slice HO586.out
   subst eo8
   go_wp2
   go_meet
   case rel => exact ⟨_, (true), (by first | rfl | (simp; done) | (simp [*]; done)), H', ⟨by first | omega | exact Nat.le_refl _⟩, ⟨by (with_reducible repeat (first | apply Kd.R_alloc | apply Kd.R_drewN | apply Kd.R_drew)); exact HO586.out⟩, ⟨by (with_reducible repeat (first | refine blk_drewN ?_ _ | refine blk_drew ?_ | refine blk_alloc ?_ _)); exact BK583.out⟩, ⟨pB⟩⟩
  ·rw [if_neg c7] at H
   have c7b0 : ((t584.length : Int) == 0) = false := beq_eq_false_iff_ne.mpr c7
   have c7b1 : ((t584.length : Int) != 0) = true := bne_iff_ne.mpr c7
   have c7b2 : ¬ (t584 = []) := fun h_ => c7 (by rw [h_]; rfl)
   (first | rw [c7b0] | (simp only [i64_w, i32_w]; rw [c7b0]) | rw [c7b1] | (simp only [i64_w, i32_w]; rw [c7b1]) | skip)
   have H' := am H
   clear H
   obtain ⟨Ao9, co9, eo9⟩ := Kd.R_slice HO586.out
   subst eo9
   have q10 := cf2 BK583.out
   go_wp2
   go_meet
   case rel => exact ⟨_, (decide (a0_1 < (-1000))), (by first | rfl | (simp; done) | (simp [*]; done)), H', ⟨by first | omega | exact Nat.le_refl _⟩, ⟨by (with_reducible repeat (first | apply Kd.R_alloc | apply Kd.R_drewN | apply Kd.R_drew)); exact HO586.out⟩, ⟨by (with_reducible repeat (first | refine blk_drewN ?_ _ | refine blk_drew ?_ | refine blk_alloc ?_ _)); exact BK583.out⟩, ⟨pB⟩⟩
 case rest =>
  clear HC3
  try clear c1
  try clear c2
  try clear p2
  try clear c7
  try clear c7b0
  try clear c7b1
  try clear c7b2
  try clear q10 q5
  obtain ⟨kq, x18_2, rfl, HA, HJ2, HO_3, BK583, HB⟩ := hcut
  cases kq with
  | zero => exact absurd HA.out (by simp [r5_Near.j0])
  | succ kj2 =>
   have H := HA.out
   clear HA
   simp only [r5_Near.j0] at H
   by_cases c11 : x18_2 = true
   ·subst c11
    rw [if_pos rfl] at H
    obtain rfl := Option.some.inj H
    go_wp2
    go_ret
    exact ⟨pE, pB⟩
   ·replace c11 := Bool.eq_false_iff.mpr c11
    subst c11
    rw [if_neg (show ¬ (false = true) by decide)] at H
    by_cases c12 : a0_1 > 400
    ·rw [if_pos c12] at H
     have c12b0 : decide (400 < a0_1) = true := decide_eq_true c12
     clear c12
     replace H := Option.bind_eq_some_iff.mp H
     obtain ⟨t587, A130, H⟩ := H
     try dsimp only at H
     have A13 := am A130
     clear A130
     obtain rfl := Option.some.inj H
     have q14 := cf2 BK583.out
     go_wp2_with (first | ((with_reducible refine gate_callee (f := 21) rfl ?_); refine goesL_ (some 22) rfl rfl Tryd.func21 (by kernel_rfl) rfl #[.bool false] rfl pM ?_; (with_reducible refine (r1_Infinite.calls false t587 _ A13.out).mono ?_); rintro e w' ⟨rfl, ⟨nd, rfl⟩⟩; refine ⟨_, rfl, ?_⟩))
     go_ret
     exact ⟨pE, pB⟩
    ·rw [if_neg c12] at H
     have c12b0 : decide (400 < a0_1) = false := decide_eq_false c12
     clear c12
     by_cases c15 : a0_1 ≥ 0
     ·rw [if_pos c15] at H
      have c15b0 : decide (0 ≤ a0_1) = true := decide_eq_true c15
      clear c15
      replace H := Option.bind_eq_some_iff.mp H
      obtain ⟨t588, A160, H⟩ := H
      try dsimp only at H
      have A16 := am A160
      clear A160
      replace H := Option.bind_eq_some_iff.mp H
      obtain ⟨t591, A170, H⟩ := H
      try dsimp only at H
      have A17 := am A170
      clear A170
      replace H := Option.bind_eq_some_iff.mp H
      obtain ⟨t594, A180, H⟩ := H
      try dsimp only at H
      have A18 := am A180
      clear A180
      obtain rfl := Option.some.inj H
      have q19 := cf2 BK583.out
      go_wp2_with (first | ((with_reducible refine gate_callee (f := 24) rfl ?_); refine goesL_ (some 29) rfl rfl Tryd.func24 (by kernel_rfl) rfl #[.int .i64 a0_1] rfl pM ?_; (with_reducible refine (r5_Ten.calls kj2 a0_1 t588 _ A16.out).mono ?_); rintro e w20 ⟨v589, rfl, ho0, hb⟩; refine ⟨_, rfl, ?_⟩; have HO590 := am (Kd.R_lower (Kd.R_new' ho0 (Kd.R_lt (pR HO_3.out))) (below_size pB)); replace HO_3 := am (Kd.R_elder' (pR HO_3.out) (Kd.R_base ho0) hb); replace BK583 := am (pkb BK583.out hb); replace HB := am (below_step pB hb); (try clear hb); (try clear ho0); obtain ⟨Ao21, co21, eo21⟩ := Kd.R_slice HO_3.out; subst eo21; obtain ⟨Ao22, co22, eo22⟩ := Kd.R_slice HO590.out; subst eo22) | ((with_reducible refine gate_callee (f := 23) rfl ?_); refine goesL_ (some 30) rfl rfl Tryd.func23 (by kernel_rfl) rfl #[.slice Ao21 t584.length co21, .slice Ao22 t588.length co22] rfl pM ?_; (with_reducible refine (r1_Product.calls kj2 _ _ t584 _ _ t588 t591 _ ?side1 ?side2 ?side3 ?side4 A17.out).mono ?_); (case side1 => repeat (first | exact (Kd.R_reads' HO_3.out).2.2 | (with_reducible refine Kd.C_alloc ?_ _) | (with_reducible refine Kd.C_drewN ?_ _) | (with_reducible refine Kd.C_drew ?_))); (case side2 => exact (Kd.R_reads' HO_3.out).2.1); (case side3 => repeat (first | exact (Kd.R_reads' HO590.out).2.2 | (with_reducible refine Kd.C_alloc ?_ _) | (with_reducible refine Kd.C_drewN ?_ _) | (with_reducible refine Kd.C_drew ?_))); (case side4 => exact (Kd.R_reads' HO590.out).2.1); rintro e w23 ⟨v592, rfl, ho0, hb⟩; refine ⟨_, rfl, ?_⟩; have HO593 := am (Kd.R_lower (Kd.R_new' (Kd.R_new' ho0 (Kd.R_lt (pR HO_3.out))) (Kd.R_lt (pR HO590.out))) (below_size pB)); replace HO_3 := am (Kd.R_elder' (pR HO_3.out) (Kd.R_base ho0) hb); replace HO590 := am (Kd.R_elder' (pR HO590.out) (Kd.R_base ho0) hb); replace BK583 := am (pkb BK583.out hb); replace HB := am (below_step pB hb); (try clear hb); (try clear ho0); obtain ⟨Ao24, co24, eo24⟩ := Kd.R_slice HO593.out; subst eo24) | ((with_reducible refine gate_callee (f := 22) rfl ?_); refine goesL_ (some 31) rfl rfl Tryd.func22 (by kernel_rfl) rfl #[.bool false, .int .i64 0, .slice Ao24 t591.length co24, .bool false] rfl pM ?_; (with_reducible refine (r1_Round.calls kj2 false 0 _ _ t591 false t594 _ ?side1 ?side2 A18.out).mono ?_); (case side1 => repeat (first | exact (Kd.R_reads' HO593.out).2.2 | (with_reducible refine Kd.C_alloc ?_ _) | (with_reducible refine Kd.C_drewN ?_ _) | (with_reducible refine Kd.C_drew ?_))); (case side2 => exact (Kd.R_reads' HO593.out).2.1); rintro e w25 ⟨rfl, hb⟩; refine ⟨_, rfl, ?_⟩; replace HO_3 := am (Kd.R_below (pR HO_3.out) hb); replace HO590 := am (Kd.R_below (pR HO590.out) hb); replace HO593 := am (Kd.R_below (pR HO593.out) hb); replace BK583 := am (pkb BK583.out hb); replace HB := am (below_step pB hb); (try clear hb)))
      go_ret
      exact ⟨pE, pB⟩
     ·rw [if_neg c15] at H
      have c15b0 : decide (0 ≤ a0_1) = false := decide_eq_false c15
      clear c15
      replace H := Option.bind_eq_some_iff.mp H
      obtain ⟨t595, A260, H⟩ := H
      try dsimp only at H
      have A26 := am A260
      clear A260
      replace H := Option.bind_eq_some_iff.mp H
      obtain ⟨t598, A270, H⟩ := H
      try dsimp only at H
      have A27 := am A270
      clear A270
      replace H := Option.bind_eq_some_iff.mp H
      obtain ⟨t599, A280, H⟩ := H
      try dsimp only at H
      have A28 := am A280
      clear A280
      by_cases c29 : (wrap64 ((wrap64 (t598 - t599)) + 70)) < 0
      ·rw [if_pos c29] at H
       have c29b0 : decide ((wrap64 ((wrap64 (t598 - t599)) + 70)) < 0) = true := decide_eq_true c29
       clear c29
       replace H := Option.bind_eq_some_iff.mp H
       obtain ⟨t600, A300, H⟩ := H
       try dsimp only at H
       have A30 := am A300
       clear A300
       replace H := Option.bind_eq_some_iff.mp H
       obtain ⟨⟨t603, t604⟩, A310, H⟩ := H
       try dsimp only at H
       have A31 := am A310
       clear A310
       replace H := Option.bind_eq_some_iff.mp H
       obtain ⟨t609, A320, H⟩ := H
       try dsimp only at H
       have A32 := am A320
       clear A320
       obtain rfl := Option.some.inj H
       have q33 := cf2 BK583.out
       have hd_ : decide ((t604.length : Int) > 0) = decide (0 < t604.length) := decide_eq_decide.2 (by omega)
       go_wp2_with (first | ((with_reducible refine gate_callee (f := 24) rfl ?_); refine goesL_ (some 35) rfl rfl Tryd.func24 (by kernel_rfl) rfl #[.int .i64 (wrap64 (-a0_1))] rfl pM ?_; (with_reducible refine (r5_Ten.calls kj2 (wrap64 (-a0_1)) t595 _ A26.out).mono ?_); rintro e w34 ⟨v596, rfl, ho0, hb⟩; refine ⟨_, rfl, ?_⟩; have HO597 := am (Kd.R_lower (Kd.R_new' ho0 (Kd.R_lt (pR HO_3.out))) (below_size pB)); replace HO_3 := am (Kd.R_elder' (pR HO_3.out) (Kd.R_base ho0) hb); replace BK583 := am (pkb BK583.out hb); replace HB := am (below_step pB hb); (try clear hb); (try clear ho0); obtain ⟨Ao35, co35, eo35⟩ := Kd.R_slice HO597.out; subst eo35) | ((with_reducible refine gate_callee (f := 25) rfl ?_); refine goesL_ (some 37) rfl rfl Tryd.func25 (by kernel_rfl) rfl #[.slice Ao35 t595.length co35] rfl pM ?_; (with_reducible refine (r1_Len.calls kj2 _ _ t595 t598 _ ?side1 ?side2 A27.out).mono ?_); (case side1 => repeat (first | exact (Kd.R_reads' HO597.out).2.2 | (with_reducible refine Kd.C_alloc ?_ _) | (with_reducible refine Kd.C_drewN ?_ _) | (with_reducible refine Kd.C_drew ?_))); (case side2 => exact (Kd.R_reads' HO597.out).2.1); rintro e w' ⟨rfl, ⟨nd, rfl⟩⟩; refine ⟨_, rfl, ?_⟩; obtain ⟨Ao36, co36, eo36⟩ := Kd.R_slice HO_3.out; subst eo36) | ((with_reducible refine gate_callee (f := 25) rfl ?_); refine goesL_ (some 39) rfl rfl Tryd.func25 (by kernel_rfl) rfl #[.slice Ao36 t584.length co36] rfl pM ?_; (with_reducible refine (r1_Len.calls kj2 _ _ t584 t599 _ ?side1 ?side2 A28.out).mono ?_); (case side1 => repeat (first | exact (Kd.R_reads' HO_3.out).2.2 | (with_reducible refine Kd.C_alloc ?_ _) | (with_reducible refine Kd.C_drewN ?_ _) | (with_reducible refine Kd.C_drew ?_))); (case side2 => exact (Kd.R_reads' HO_3.out).2.1); rintro e w' ⟨rfl, ⟨nd, rfl⟩⟩; refine ⟨_, rfl, ?_⟩) | ((with_reducible refine gate_callee (f := 27) rfl ?_); refine goesL_ (some 47) rfl rfl Tryd.func27 (by kernel_rfl) rfl #[.slice Ao36 t584.length co36, .int .i64 0] rfl pM ?_; (with_reducible refine (r1_Up.calls kj2 _ _ t584 0 t600 _ ?side1 ?side2 A30.out).mono ?_); (case side1 => repeat (first | exact (Kd.R_reads' HO_3.out).2.2 | (with_reducible refine Kd.C_alloc ?_ _) | (with_reducible refine Kd.C_drewN ?_ _) | (with_reducible refine Kd.C_drew ?_))); (case side2 => exact (Kd.R_reads' HO_3.out).2.1); rintro e w37 ⟨v601, rfl, ho0, hb⟩; refine ⟨_, rfl, ?_⟩; have HO602 := am (Kd.R_lower (Kd.R_new' (Kd.R_new' ho0 (Kd.R_lt (pR HO_3.out))) (Kd.R_lt (pR HO597.out))) (below_size pB)); replace HO_3 := am (Kd.R_elder' (pR HO_3.out) (Kd.R_base ho0) hb); replace HO597 := am (Kd.R_elder' (pR HO597.out) (Kd.R_base ho0) hb); replace BK583 := am (pkb BK583.out hb); replace HB := am (below_step pB hb); (try clear hb); (try clear ho0); obtain ⟨Ao38, co38, eo38⟩ := Kd.R_slice HO602.out; subst eo38) | ((with_reducible refine gate_callee (f := 26) rfl ?_); refine goesL_ (some 49) rfl rfl Tryd.func26 (by kernel_rfl) rfl #[.slice Ao38 t600.length co38, .slice Ao35 t595.length co35] rfl pM ?_; (with_reducible refine (r1_Divide.calls kj2 _ _ t600 _ _ t595 t603 t604 _ ?side1 ?side2 ?side3 ?side4 A31.out).mono ?_); (case side1 => repeat (first | exact (Kd.R_reads' HO602.out).2.2 | (with_reducible refine Kd.C_alloc ?_ _) | (with_reducible refine Kd.C_drewN ?_ _) | (with_reducible refine Kd.C_drew ?_))); (case side2 => exact (Kd.R_reads' HO602.out).2.1); (case side3 => repeat (first | exact (Kd.R_reads' HO597.out).2.2 | (with_reducible refine Kd.C_alloc ?_ _) | (with_reducible refine Kd.C_drewN ?_ _) | (with_reducible refine Kd.C_drew ?_))); (case side4 => exact (Kd.R_reads' HO597.out).2.1); rintro e w39 ⟨v605, v607, rfl, ho0, ho1, hb⟩; refine ⟨_, rfl, ?_⟩; have HO606 := am (Kd.R_lower (Kd.R_new' (Kd.R_new' (Kd.R_new' ho0 (Kd.R_lt (pR HO_3.out))) (Kd.R_lt (pR HO597.out))) (Kd.R_lt (pR HO602.out))) (below_size pB)); have HO608 := am (Kd.R_lower (Kd.R_new' (Kd.R_new' (Kd.R_new' ho1 (Kd.R_lt (pR HO_3.out))) (Kd.R_lt (pR HO597.out))) (Kd.R_lt (pR HO602.out))) (below_size pB)); replace HO_3 := am (Kd.R_mono (Kd.R_told (Kd.R_told (Kd.R_old (pR HO_3.out) hb) (Kd.R_base ho0)) (Kd.R_base ho1)) (fun _ h_ => h_.1)); replace HO597 := am (Kd.R_mono (Kd.R_told (Kd.R_told (Kd.R_old (pR HO597.out) hb) (Kd.R_base ho0)) (Kd.R_base ho1)) (fun _ h_ => h_.1)); replace HO602 := am (Kd.R_mono (Kd.R_told (Kd.R_told (Kd.R_old (pR HO602.out) hb) (Kd.R_base ho0)) (Kd.R_base ho1)) (fun _ h_ => h_.1)); replace BK583 := am (pkb BK583.out hb); replace HB := am (below_step pB hb); (try clear hb); (try clear ho0); (try clear ho1); obtain ⟨Ao40, co40, eo40⟩ := Kd.R_slice HO608.out; subst eo40; obtain ⟨Ao41, co41, eo41⟩ := Kd.R_slice HO606.out; subst eo41) | ((with_reducible refine gate_callee (f := 22) rfl ?_); refine goesL_ (some 58) rfl rfl Tryd.func22 (by kernel_rfl) rfl #[.bool false, .int .i64 0, .slice Ao41 t603.length co41, .bool (decide (0 < t604.length))] rfl pM ?_; (with_reducible refine (r1_Round.calls kj2 false 0 _ _ t603 (decide (0 < t604.length)) t609 _ ?side1 ?side2 (hd_ ▸ A32.out)).mono ?_); (case side1 => repeat (first | exact (Kd.R_reads' HO606.out).2.2 | (with_reducible refine Kd.C_alloc ?_ _) | (with_reducible refine Kd.C_drewN ?_ _) | (with_reducible refine Kd.C_drew ?_))); (case side2 => exact (Kd.R_reads' HO606.out).2.1); rintro e w42 ⟨rfl, hb⟩; refine ⟨_, rfl, ?_⟩; replace HO_3 := am (Kd.R_below (pR HO_3.out) hb); replace HO597 := am (Kd.R_below (pR HO597.out) hb); replace HO602 := am (Kd.R_below (pR HO602.out) hb); replace HO606 := am (Kd.R_below (pR HO606.out) hb); replace HO608 := am (Kd.R_below (pR HO608.out) hb); replace BK583 := am (pkb BK583.out hb); replace HB := am (below_step pB hb); (try clear hb)))
       go_ret
       exact ⟨pE, pB⟩
      ·rw [if_neg c29] at H
       have c29b0 : decide ((wrap64 ((wrap64 (t598 - t599)) + 70)) < 0) = false := decide_eq_false c29
       clear c29
       replace H := Option.bind_eq_some_iff.mp H
       obtain ⟨t610, A430, H⟩ := H
       try dsimp only at H
       have A43 := am A430
       clear A430
       replace H := Option.bind_eq_some_iff.mp H
       obtain ⟨⟨t613, t614⟩, A440, H⟩ := H
       try dsimp only at H
       have A44 := am A440
       clear A440
       replace H := Option.bind_eq_some_iff.mp H
       obtain ⟨t619, A450, H⟩ := H
       try dsimp only at H
       have A45 := am A450
       clear A450
       obtain rfl := Option.some.inj H
       have q46 := cf2 BK583.out
       have hd_ : decide ((t614.length : Int) > 0) = decide (0 < t614.length) := decide_eq_decide.2 (by omega)
       go_wp2_with (first | ((with_reducible refine gate_callee (f := 24) rfl ?_); refine goesL_ (some 35) rfl rfl Tryd.func24 (by kernel_rfl) rfl #[.int .i64 (wrap64 (-a0_1))] rfl pM ?_; (with_reducible refine (r5_Ten.calls kj2 (wrap64 (-a0_1)) t595 _ A26.out).mono ?_); rintro e w47 ⟨v596, rfl, ho0, hb⟩; refine ⟨_, rfl, ?_⟩; have HO597 := am (Kd.R_lower (Kd.R_new' ho0 (Kd.R_lt (pR HO_3.out))) (below_size pB)); replace HO_3 := am (Kd.R_elder' (pR HO_3.out) (Kd.R_base ho0) hb); replace BK583 := am (pkb BK583.out hb); replace HB := am (below_step pB hb); (try clear hb); (try clear ho0); obtain ⟨Ao48, co48, eo48⟩ := Kd.R_slice HO597.out; subst eo48) | ((with_reducible refine gate_callee (f := 25) rfl ?_); refine goesL_ (some 37) rfl rfl Tryd.func25 (by kernel_rfl) rfl #[.slice Ao48 t595.length co48] rfl pM ?_; (with_reducible refine (r1_Len.calls kj2 _ _ t595 t598 _ ?side1 ?side2 A27.out).mono ?_); (case side1 => repeat (first | exact (Kd.R_reads' HO597.out).2.2 | (with_reducible refine Kd.C_alloc ?_ _) | (with_reducible refine Kd.C_drewN ?_ _) | (with_reducible refine Kd.C_drew ?_))); (case side2 => exact (Kd.R_reads' HO597.out).2.1); rintro e w' ⟨rfl, ⟨nd, rfl⟩⟩; refine ⟨_, rfl, ?_⟩; obtain ⟨Ao49, co49, eo49⟩ := Kd.R_slice HO_3.out; subst eo49) | ((with_reducible refine gate_callee (f := 25) rfl ?_); refine goesL_ (some 39) rfl rfl Tryd.func25 (by kernel_rfl) rfl #[.slice Ao49 t584.length co49] rfl pM ?_; (with_reducible refine (r1_Len.calls kj2 _ _ t584 t599 _ ?side1 ?side2 A28.out).mono ?_); (case side1 => repeat (first | exact (Kd.R_reads' HO_3.out).2.2 | (with_reducible refine Kd.C_alloc ?_ _) | (with_reducible refine Kd.C_drewN ?_ _) | (with_reducible refine Kd.C_drew ?_))); (case side2 => exact (Kd.R_reads' HO_3.out).2.1); rintro e w' ⟨rfl, ⟨nd, rfl⟩⟩; refine ⟨_, rfl, ?_⟩) | ((with_reducible refine gate_callee (f := 27) rfl ?_); refine goesL_ (some 47) rfl rfl Tryd.func27 (by kernel_rfl) rfl #[.slice Ao49 t584.length co49, .int .i64 (wrap64 ((wrap64 (t598 - t599)) + 70))] rfl pM ?_; (with_reducible refine (r1_Up.calls kj2 _ _ t584 (wrap64 ((wrap64 (t598 - t599)) + 70)) t610 _ ?side1 ?side2 A43.out).mono ?_); (case side1 => repeat (first | exact (Kd.R_reads' HO_3.out).2.2 | (with_reducible refine Kd.C_alloc ?_ _) | (with_reducible refine Kd.C_drewN ?_ _) | (with_reducible refine Kd.C_drew ?_))); (case side2 => exact (Kd.R_reads' HO_3.out).2.1); rintro e w50 ⟨v611, rfl, ho0, hb⟩; refine ⟨_, rfl, ?_⟩; have HO612 := am (Kd.R_lower (Kd.R_new' (Kd.R_new' ho0 (Kd.R_lt (pR HO_3.out))) (Kd.R_lt (pR HO597.out))) (below_size pB)); replace HO_3 := am (Kd.R_elder' (pR HO_3.out) (Kd.R_base ho0) hb); replace HO597 := am (Kd.R_elder' (pR HO597.out) (Kd.R_base ho0) hb); replace BK583 := am (pkb BK583.out hb); replace HB := am (below_step pB hb); (try clear hb); (try clear ho0); obtain ⟨Ao51, co51, eo51⟩ := Kd.R_slice HO612.out; subst eo51) | ((with_reducible refine gate_callee (f := 26) rfl ?_); refine goesL_ (some 49) rfl rfl Tryd.func26 (by kernel_rfl) rfl #[.slice Ao51 t610.length co51, .slice Ao48 t595.length co48] rfl pM ?_; (with_reducible refine (r1_Divide.calls kj2 _ _ t610 _ _ t595 t613 t614 _ ?side1 ?side2 ?side3 ?side4 A44.out).mono ?_); (case side1 => repeat (first | exact (Kd.R_reads' HO612.out).2.2 | (with_reducible refine Kd.C_alloc ?_ _) | (with_reducible refine Kd.C_drewN ?_ _) | (with_reducible refine Kd.C_drew ?_))); (case side2 => exact (Kd.R_reads' HO612.out).2.1); (case side3 => repeat (first | exact (Kd.R_reads' HO597.out).2.2 | (with_reducible refine Kd.C_alloc ?_ _) | (with_reducible refine Kd.C_drewN ?_ _) | (with_reducible refine Kd.C_drew ?_))); (case side4 => exact (Kd.R_reads' HO597.out).2.1); rintro e w52 ⟨v615, v617, rfl, ho0, ho1, hb⟩; refine ⟨_, rfl, ?_⟩; have HO616 := am (Kd.R_lower (Kd.R_new' (Kd.R_new' (Kd.R_new' ho0 (Kd.R_lt (pR HO_3.out))) (Kd.R_lt (pR HO597.out))) (Kd.R_lt (pR HO612.out))) (below_size pB)); have HO618 := am (Kd.R_lower (Kd.R_new' (Kd.R_new' (Kd.R_new' ho1 (Kd.R_lt (pR HO_3.out))) (Kd.R_lt (pR HO597.out))) (Kd.R_lt (pR HO612.out))) (below_size pB)); replace HO_3 := am (Kd.R_mono (Kd.R_told (Kd.R_told (Kd.R_old (pR HO_3.out) hb) (Kd.R_base ho0)) (Kd.R_base ho1)) (fun _ h_ => h_.1)); replace HO597 := am (Kd.R_mono (Kd.R_told (Kd.R_told (Kd.R_old (pR HO597.out) hb) (Kd.R_base ho0)) (Kd.R_base ho1)) (fun _ h_ => h_.1)); replace HO612 := am (Kd.R_mono (Kd.R_told (Kd.R_told (Kd.R_old (pR HO612.out) hb) (Kd.R_base ho0)) (Kd.R_base ho1)) (fun _ h_ => h_.1)); replace BK583 := am (pkb BK583.out hb); replace HB := am (below_step pB hb); (try clear hb); (try clear ho0); (try clear ho1); obtain ⟨Ao53, co53, eo53⟩ := Kd.R_slice HO618.out; subst eo53; obtain ⟨Ao54, co54, eo54⟩ := Kd.R_slice HO616.out; subst eo54) | ((with_reducible refine gate_callee (f := 22) rfl ?_); refine goesL_ (some 58) rfl rfl Tryd.func22 (by kernel_rfl) rfl #[.bool false, .int .i64 (wrap64 (-(wrap64 ((wrap64 (t598 - t599)) + 70)))), .slice Ao54 t613.length co54, .bool (decide (0 < t614.length))] rfl pM ?_; (with_reducible refine (r1_Round.calls kj2 false (wrap64 (-(wrap64 ((wrap64 (t598 - t599)) + 70)))) _ _ t613 (decide (0 < t614.length)) t619 _ ?side1 ?side2 (hd_ ▸ A45.out)).mono ?_); (case side1 => repeat (first | exact (Kd.R_reads' HO616.out).2.2 | (with_reducible refine Kd.C_alloc ?_ _) | (with_reducible refine Kd.C_drewN ?_ _) | (with_reducible refine Kd.C_drew ?_))); (case side2 => exact (Kd.R_reads' HO616.out).2.1); rintro e w55 ⟨rfl, hb⟩; refine ⟨_, rfl, ?_⟩; replace HO_3 := am (Kd.R_below (pR HO_3.out) hb); replace HO597 := am (Kd.R_below (pR HO597.out) hb); replace HO612 := am (Kd.R_below (pR HO612.out) hb); replace HO616 := am (Kd.R_below (pR HO616.out) hb); replace HO618 := am (Kd.R_below (pR HO618.out) hb); replace BK583 := am (pkb BK583.out hb); replace HB := am (below_step pB hb); (try clear hb)))
       go_ret
       exact ⟨pE, pB⟩
end Go.Proofs.YtflcanpajgpghaaDoor.Pr
end
section
namespace Go.Proofs.YtflcanpajgpghaaDoor.Pr
open Go.RowKit Go.Proofs.YtflcanpajgpghaaDoorW.PrintWords Go.Proofs.YtflcanpajgpghaaDoorW.PrintLast Go.Proofs.YtflcanpajgpghaaDoorW.PrintMore
attribute [local go_sem] max2_int min2_int max_two min_two max_three min_three max_four min_four
mutual
def minstrellaw05_DecNoughts.j1 : Nat → List Int → Int → ByteArray → ByteArray → Option (Bool)
 | 0, _, _, _, _ => none
 | k + 1, x1, x2, x7, x8 => minstrellaw05_DecNoughts.l1 k x1 x2 x7 x8 0
def minstrellaw05_DecNoughts.j3 : Nat → Int → ByteArray → ByteArray → Option (Bool)
 | 0, _, _, _ => none
 | k + 1, x2, x7, x8 => if x7.size + 1 ≤ 9223372036854775807 then (if (x7 ++ (⟨#[46]⟩ : ByteArray)).size + x8.size ≤ 9223372036854775807 then ((dec_Parse.f k ((x7 ++ (⟨#[46]⟩ : ByteArray)) ++ x8)).bind fun bt628 => (minstrellaw05_DecNoughts.l2 k x2 x7 x8 bt628.1 bt628.2 ((x7 ++ (⟨#[46]⟩ : ByteArray)) ++ x8) 0)) else (none)) else (none)
def minstrellaw05_DecNoughts.l2 : Nat → Int → ByteArray → ByteArray → Int → Int → ByteArray → Int → Option (Bool)
 | 0, _, _, _, _, _, _, _ => none
 | k + 1, x2, x7, x8, x11, x12, x13, x14 => if x14 < (wrap64 (x2)) then (if x13.size + 1 ≤ 9223372036854775807 then (minstrellaw05_DecNoughts.l2 k x2 x7 x8 x11 x12 (x13 ++ (⟨#[48]⟩ : ByteArray)) (wrap64 (x14 + 1))) else (none)) else ((dec_Parse.f k x13).bind fun bt630 => (if x13.size + 2 ≤ 9223372036854775807 then ((dec_Parse.f k (x13 ++ (⟨#[101, 48]⟩ : ByteArray))).bind fun bt632 => (if x11 = bt630.1 then (if x11 = bt632.1 then (if x12 = 0 then (if bt630.2 = x12 then (if bt632.2 = x12 then (if x7.size + x8.size ≤ 9223372036854775807 then ((r5_Near.f k (x7 ++ x8) (wrap64 (-(x8.size : Int)))).bind fun t634 => (if x11 = t634 then ((minstrellaw05_lives.f k).bind fun t635 => (some t635)) else (none))) else (none)) else (none)) else (none)) else (none)) else (none)) else (none))) else (none)))
def minstrellaw05_DecNoughts.l1 : Nat → List Int → Int → ByteArray → ByteArray → Int → Option (Bool)
 | 0, _, _, _, _, _ => none
 | k + 1, x1, x2, x7, x8, x10 => if x10 < (x1.length : Int) then (if x10 < 40 then (if 0 ≤ x10 then ((some (([(48 + (Int.tmod (rd x1 x10) 10)) % 256] : List Int) : List Int)).bind fun y625 => (if x8.size + (strOfNums y625).size ≤ 9223372036854775807 then (minstrellaw05_DecNoughts.l1 k x1 x2 x7 (x8 ++ (strOfNums y625)) (wrap64 (x10 + 1))) else (none))) else (none)) else (minstrellaw05_DecNoughts.j3 k x2 x7 x8)) else (minstrellaw05_DecNoughts.j3 k x2 x7 x8)
def minstrellaw05_DecNoughts.l0 : Nat → List Int → List Int → Int → ByteArray → ByteArray → Int → Option (Bool)
 | 0, _, _, _, _, _, _ => none
 | k + 1, x0, x1, x2, x7, x8, x9 => if x9 < (x0.length : Int) then (if x9 < 40 then (if 0 ≤ x9 then ((some (([(48 + (Int.tmod (rd x0 x9) 10)) % 256] : List Int) : List Int)).bind fun y621 => (if x7.size + (strOfNums y621).size ≤ 9223372036854775807 then (minstrellaw05_DecNoughts.l0 k x0 x1 x2 (x7 ++ (strOfNums y621)) x8 (wrap64 (x9 + 1))) else (none))) else (none)) else (minstrellaw05_DecNoughts.j1 k x1 x2 x7 x8)) else (minstrellaw05_DecNoughts.j1 k x1 x2 x7 x8)
end
def minstrellaw05_DecNoughts.f (k : Nat) (l0 : List Int) (l1 : List Int) (a2 : Int) : Option (Bool) := minstrellaw05_DecNoughts.l0 k l0 l1 a2 (⟨#[49]⟩ : ByteArray) (⟨#[53]⟩ : ByteArray) 0
set_option maxHeartbeats 8000000 in
set_option maxRecDepth 100000 in
theorem minstrellaw05_DecNoughts.calls (k : Nat) (A0 : Option Addr) (c0 : Nat) (l0 : List Int) (A1 : Option Addr) (c1 : Nat) (l1 : List Int) (a2 : Int) (r : Bool) (w : World) (hr0 : Kd.C (Kd.int .u8) w A0 l0.length l0) (hc0 : l0.length ≤ c0) (hr1 : Kd.C (Kd.int .u8) w A1 l1.length l1) (hc1 : l1.length ≤ c1) (hG : PowLaid w) (h : minstrellaw05_DecNoughts.f k l0 l1 a2 = some r) :
  Calls Tryd.prog 4 #[.slice A0 l0.length c0, .slice A1 l1.length c1, .int .u8 a2] w fun e w' => e = .returned (.bool r) ∧ Below w.heap.size w w' := by
 have hu31 := Tryd.underlying31
 have HR0 := am hr0
 have HC0 := am hc0
 clear hr0 hc0
 have HR1 := am hr1
 have HC1 := am hc1
 clear hr1 hc1
 have HG := am hG
 clear hG
 have HB := am (Below.refl w.heap.size w)
 have H : (minstrellaw05_DecNoughts.l0 k l0 l1 a2 (⟨#[49]⟩ : ByteArray) (⟨#[53]⟩ : ByteArray) 0) = some r := h
 clear h
 have HC4 := am H
 clear H
 go_enter Tryd.func4, Tryd.ntmps4
 go_upto_block 0 with (fail)
 go_cut [7] (fun v7 wc => ∃ (kq : Nat) (x7_3 : ByteArray), v7 = .string x7_3 ∧ Aside0 (minstrellaw05_DecNoughts.j1 kq l1 a2 x7_3 (⟨#[53]⟩ : ByteArray) = some r) ∧ Aside0 (kq ≤ k) ∧ Aside0 (Below w.heap.size w wc))
 case first =>
  have H := HC4.out
  clear HC4
  have H' := am H
  clear H
  go_wp2
  go_loopg [7, 9] k (fun kq v7 v9 w' => ∃ (x7_1 : ByteArray) (x9_1 : Int), v7 = .string x7_1 ∧ v9 = .int .i64 x9_1 ∧ Aside0 (minstrellaw05_DecNoughts.l0 kq l0 l1 a2 x7_1 (⟨#[53]⟩ : ByteArray) x9_1 = some r) ∧ Aside0 (kq ≤ k) ∧ Aside0 (Below w.heap.size w w'))
  case atStart => exact ⟨((⟨#[49]⟩ : ByteArray)), (0), (by first | rfl | (simp; done) | (simp [*]; done)), (by first | rfl | (simp; done) | (simp [*]; done)), H', ⟨Nat.le_refl _⟩, ⟨pB⟩⟩
  case round =>
   clear H'
   try clear c1
   try clear p2
   try clear c4
   obtain ⟨x7_1, x9_1, rfl, rfl, HA, HK1, HB⟩ := hrel
   cases gk with
   | zero => exact absurd HA.out (by simp [minstrellaw05_DecNoughts.l0])
   | succ k1 =>
    have H := HA.out
    clear HA
    simp only [minstrellaw05_DecNoughts.l0] at H
    by_cases c5 : x9_1 < (l0.length : Int)
    ·rw [if_pos c5] at H
     have c5b0 : decide (x9_1 < (l0.length : Int)) = true := decide_eq_true c5
     clear c5
     (first | rw [c5b0] | (simp only [i64_w, i32_w]; rw [c5b0]) | rw [c5b1] | (simp only [i64_w, i32_w]; rw [c5b1]) | skip)
     by_cases c6 : x9_1 < 40
     ·rw [if_pos c6] at H
      have c6b0 : decide (x9_1 < 40) = true := decide_eq_true c6
      clear c6
      by_cases c7 : 0 ≤ x9_1
      ·rw [if_pos c7] at H
       have c7b0 : decide (0 ≤ x9_1) = true := decide_eq_true c7
       clear c7
       obtain ⟨y621, hy621⟩ : ∃ y_ : List Int, y_ = (([(48 + (Int.tmod (rd l0 x9_1) 10)) % 256] : List Int)) := ⟨_, rfl⟩
       replace H : (if x7_1.size + (strOfNums y621).size ≤ 9223372036854775807 then (minstrellaw05_DecNoughts.l0 k1 l0 l1 a2 (x7_1 ++ (strOfNums y621)) (⟨#[53]⟩ : ByteArray) (wrap64 (x9_1 + 1))) else (none)) = some r := by first | (rw [hy621]; with_reducible exact H) | (have H2_ := (Option.bind_some _ _).symm.trans H; rw [hy621]; with_reducible exact H2_) | (have H2_ := (Option.bind_some _ _).symm.trans H; with_reducible exact H2_) | with_reducible exact H | (rw [hy621]; exact H) | exact H
       have Ny621 := am hy621
       clear hy621
       by_cases c8 : x7_1.size + (strOfNums y621).size ≤ 9223372036854775807
       ·rw [if_pos c8] at H
        have c8b0 := eq_true c8
        have c8b1 : decide (x7_1.size + (strOfNums y621).size ≤ 9223372036854775807) = true := decide_eq_true c8
        try have c8b2 : (9223372036854775807 < x7_1.size + (strOfNums y621).size) = False := eq_false (Nat.not_lt.2 c8)
        have H' := am H
        clear H
        have p620 : 0 ≤ (x9_1 : Int) := pD
        have q620 : x9_1 < (l0.length : Int) := pD
        obtain ⟨ad620, e620, hx620_0⟩ := Kd.at_int HR0.out x9_1 p620 q620
        cases e620
        replace hx620_0 := (HB.out.cell (World.block_lt_of_cell? w _ hx620_0)).trans hx620_0
        replace p620 := eq_true p620
        replace q620 := eq_true q620
        go_wp2_with (first | ((with_reducible refine gate_dst (N := 36) rfl ?_); (try (refine gate_guard (by rfl) ?_; dsimp only)); refine Kd.R_lit (Kd.int .u8) _ 5 ?hg (N := 36) ?hd (xs := ([(48 + (Int.tmod (rd l0 x9_1) 10)) % 256] : List Int)) (inner := [.int .u8 ((48 + (Int.tmod (rd l0 x9_1) 10)) % 256)]) (ok := fun _ => True) (okp := fun _ => True) ?hr ?hp (fun _ hk => hk) trivial (Below.refl _ _) (Nat.le_refl _) (by simp) ?_; (case hd => rfl); (case hg => rfl); (case hr => first | (go_simp; done) | (go_simp; rfl)); (case hp => exact (Reps.one (show Kd.M (Kd.int .u8) _ _ _ ((48 + (Int.tmod (rd l0 x9_1) 10)) % 256) [.int .u8 ((48 + (Int.tmod (rd l0 x9_1) 10)) % 256)] from rfl) (Reps.none _ _))); intro v622 w9 ho10 hb hg_ hnew_; clear hg_ hnew_; (first | rw [← Ny621.out] at ho10 | (simp only [Int.reduceToNat] at ho10; rw [← Ny621.out] at ho10)); have HO623 := am (Kd.R_lower ho10 (below_size pB)); replace HB := am (below_step pB hb); clear hb ho10; have hcv11 := own_string (P := Tryd.prog) Tryd.underlying35 Tryd.underlying5 Tryd.underlying9 (Kd.own_of_R HO623.out); try have hcq12 := fun n_ : Nat => own_string (P := Tryd.prog) Tryd.underlying35 Tryd.underlying5 Tryd.underlying9 (Kd.own_of_R (Kd.R_drewN HO623.out n_))))
        go_roundg k1
        case measure => have := HK1.out; omega
        case rel => exact ⟨(x7_1 ++ (strOfNums y621)), (wrap64 (x9_1 + 1)), (by first | rfl | (simp; done) | (simp [*]; done)), (by first | rfl | (simp; done) | (simp [*]; done)), H', ⟨by have := HK1.out; omega⟩, ⟨pB⟩⟩
       ·rw [if_neg c8] at H
        exact absurd H (by simp)
      ·rw [if_neg c7] at H
       exact absurd H (by simp)
     ·rw [if_neg c6] at H
      have c6b0 : decide (x9_1 < 40) = false := decide_eq_false c6
      clear c6
      have H' := am H
      clear H
      go_wp2
      go_meet
      case rel => exact ⟨_, (x7_1), (by first | rfl | (simp; done) | (simp [*]; done)), H', ⟨by have := HK1.out; first | omega | exact Nat.le_refl _⟩, ⟨pB⟩⟩
    ·rw [if_neg c5] at H
     have c5b0 : decide (x9_1 < (l0.length : Int)) = false := decide_eq_false c5
     clear c5
     (first | rw [c5b0] | (simp only [i64_w, i32_w]; rw [c5b0]) | rw [c5b1] | (simp only [i64_w, i32_w]; rw [c5b1]) | skip)
     have H' := am H
     clear H
     go_wp2
     go_meet
     case rel => exact ⟨_, (x7_1), (by first | rfl | (simp; done) | (simp [*]; done)), H', ⟨by have := HK1.out; first | omega | exact Nat.le_refl _⟩, ⟨pB⟩⟩
 case rest =>
  clear HC4
  try clear c1
  try clear q1
  try clear hcv1
  try clear p2
  try clear c4
  try clear c5
  try clear c5b0
  try clear c5b1
  try clear c6
  try clear c6b0
  try clear p6
  try clear q6
  try clear hx6
  try clear c7
  try clear c7b0
  try clear c8
  try clear c8b0
  try clear c8b1
  try clear c8b2
  try clear hcv11
  try clear q12
  try clear hx620_0
  try clear p2
  try clear p620
  try clear q620
  obtain ⟨kq, x7_3, rfl, HA, HJ3, HB⟩ := hcut
  cases kq with
  | zero => exact absurd HA.out (by simp [minstrellaw05_DecNoughts.j1])
  | succ kj3 =>
   have H := HA.out
   clear HA
   simp only [minstrellaw05_DecNoughts.j1] at H
   have HC13 := am H
   clear H
   go_upto_block 2 with (fail)
   go_cut [8] (fun v8 wc => ∃ (kq : Nat) (x8_12 : ByteArray), v8 = .string x8_12 ∧ Aside0 (minstrellaw05_DecNoughts.j3 kq a2 x7_3 x8_12 = some r) ∧ Aside0 (kq ≤ kj3) ∧ Aside0 (Below w.heap.size w wc))
   case first =>
    have H := HC13.out
    clear HC13
    have H' := am H
    clear H
    go_wp2
    go_loopg [8, 10] kj3 (fun kq v8 v10 w' => ∃ (x8_2 : ByteArray) (x10_2 : Int), v8 = .string x8_2 ∧ v10 = .int .i64 x10_2 ∧ Aside0 (minstrellaw05_DecNoughts.l1 kq l1 a2 x7_3 x8_2 x10_2 = some r) ∧ Aside0 (kq ≤ kj3) ∧ Aside0 (Below w.heap.size w w'))
    case atStart => exact ⟨((⟨#[53]⟩ : ByteArray)), (0), (by first | rfl | (simp; done) | (simp [*]; done)), (by first | rfl | (simp; done) | (simp [*]; done)), H', ⟨Nat.le_refl _⟩, ⟨pB⟩⟩
    case round =>
     clear H'
     try clear c1
     try clear q1
     try clear hcv1
     try clear p2
     try clear c4
     try clear c5
     try clear c5b0
     try clear c5b1
     try clear c6
     try clear c6b0
     try clear p6
     try clear q6
     try clear hx6
     try clear c7
     try clear c7b0
     try clear c8
     try clear c8b0
     try clear c8b1
     try clear c8b2
     try clear hcv11
     try clear q12
     try clear hx620_0
     try clear p2
     try clear p6
     try clear p620
     try clear q1
     try clear q12
     try clear q6
     try clear q620
     obtain ⟨x8_2, x10_2, rfl, rfl, HA, HK2, HB⟩ := hrel
     cases gk with
     | zero => exact absurd HA.out (by simp [minstrellaw05_DecNoughts.l1])
     | succ k2 =>
      have H := HA.out
      clear HA
      simp only [minstrellaw05_DecNoughts.l1] at H
      by_cases c14 : x10_2 < (l1.length : Int)
      ·rw [if_pos c14] at H
       have c14b0 : decide (x10_2 < (l1.length : Int)) = true := decide_eq_true c14
       clear c14
       (first | rw [c14b0] | (simp only [i64_w, i32_w]; rw [c14b0]) | rw [c14b1] | (simp only [i64_w, i32_w]; rw [c14b1]) | skip)
       by_cases c15 : x10_2 < 40
       ·rw [if_pos c15] at H
        have c15b0 : decide (x10_2 < 40) = true := decide_eq_true c15
        clear c15
        by_cases c16 : 0 ≤ x10_2
        ·rw [if_pos c16] at H
         have c16b0 : decide (0 ≤ x10_2) = true := decide_eq_true c16
         clear c16
         obtain ⟨y625, hy625⟩ : ∃ y_ : List Int, y_ = (([(48 + (Int.tmod (rd l1 x10_2) 10)) % 256] : List Int)) := ⟨_, rfl⟩
         replace H : (if x8_2.size + (strOfNums y625).size ≤ 9223372036854775807 then (minstrellaw05_DecNoughts.l1 k2 l1 a2 x7_3 (x8_2 ++ (strOfNums y625)) (wrap64 (x10_2 + 1))) else (none)) = some r := by first | (rw [hy625]; with_reducible exact H) | (have H2_ := (Option.bind_some _ _).symm.trans H; rw [hy625]; with_reducible exact H2_) | (have H2_ := (Option.bind_some _ _).symm.trans H; with_reducible exact H2_) | with_reducible exact H | (rw [hy625]; exact H) | exact H
         have Ny625 := am hy625
         clear hy625
         by_cases c17 : x8_2.size + (strOfNums y625).size ≤ 9223372036854775807
         ·rw [if_pos c17] at H
          have c17b0 := eq_true c17
          have c17b1 : decide (x8_2.size + (strOfNums y625).size ≤ 9223372036854775807) = true := decide_eq_true c17
          try have c17b2 : (9223372036854775807 < x8_2.size + (strOfNums y625).size) = False := eq_false (Nat.not_lt.2 c17)
          have H' := am H
          clear H
          have p624 : 0 ≤ (x10_2 : Int) := pD
          have q624 : x10_2 < (l1.length : Int) := pD
          obtain ⟨ad624, e624, hx624_0⟩ := Kd.at_int HR1.out x10_2 p624 q624
          cases e624
          replace hx624_0 := (HB.out.cell (World.block_lt_of_cell? w _ hx624_0)).trans hx624_0
          replace p624 := eq_true p624
          replace q624 := eq_true q624
          go_wp2_with (first | ((with_reducible refine gate_dst (N := 56) rfl ?_); (try (refine gate_guard (by rfl) ?_; dsimp only)); refine Kd.R_lit (Kd.int .u8) _ 5 ?hg (N := 56) ?hd (xs := ([(48 + (Int.tmod (rd l1 x10_2) 10)) % 256] : List Int)) (inner := [.int .u8 ((48 + (Int.tmod (rd l1 x10_2) 10)) % 256)]) (ok := fun _ => True) (okp := fun _ => True) ?hr ?hp (fun _ hk => hk) trivial (Below.refl _ _) (Nat.le_refl _) (by simp) ?_; (case hd => rfl); (case hg => rfl); (case hr => first | (go_simp; done) | (go_simp; rfl)); (case hp => exact (Reps.one (show Kd.M (Kd.int .u8) _ _ _ ((48 + (Int.tmod (rd l1 x10_2) 10)) % 256) [.int .u8 ((48 + (Int.tmod (rd l1 x10_2) 10)) % 256)] from rfl) (Reps.none _ _))); intro v626 w18 ho19 hb hg_ hnew_; clear hg_ hnew_; (first | rw [← Ny625.out] at ho19 | (simp only [Int.reduceToNat] at ho19; rw [← Ny625.out] at ho19)); have HO627 := am (Kd.R_lower ho19 (below_size pB)); replace HB := am (below_step pB hb); clear hb ho19; have hcv20 := own_string (P := Tryd.prog) Tryd.underlying35 Tryd.underlying5 Tryd.underlying9 (Kd.own_of_R HO627.out); try have hcq21 := fun n_ : Nat => own_string (P := Tryd.prog) Tryd.underlying35 Tryd.underlying5 Tryd.underlying9 (Kd.own_of_R (Kd.R_drewN HO627.out n_))))
          go_roundg k2
          case measure => have := HJ3.out; have := HK2.out; omega
          case rel => exact ⟨(x8_2 ++ (strOfNums y625)), (wrap64 (x10_2 + 1)), (by first | rfl | (simp; done) | (simp [*]; done)), (by first | rfl | (simp; done) | (simp [*]; done)), H', ⟨by have := HJ3.out; have := HK2.out; omega⟩, ⟨pB⟩⟩
         ·rw [if_neg c17] at H
          exact absurd H (by simp)
        ·rw [if_neg c16] at H
         exact absurd H (by simp)
       ·rw [if_neg c15] at H
        have c15b0 : decide (x10_2 < 40) = false := decide_eq_false c15
        clear c15
        have H' := am H
        clear H
        go_wp2
        go_meet
        case rel => exact ⟨_, (x8_2), (by first | rfl | (simp; done) | (simp [*]; done)), H', ⟨by have := HJ3.out; have := HK2.out; first | omega | exact Nat.le_refl _⟩, ⟨pB⟩⟩
      ·rw [if_neg c14] at H
       have c14b0 : decide (x10_2 < (l1.length : Int)) = false := decide_eq_false c14
       clear c14
       (first | rw [c14b0] | (simp only [i64_w, i32_w]; rw [c14b0]) | rw [c14b1] | (simp only [i64_w, i32_w]; rw [c14b1]) | skip)
       have H' := am H
       clear H
       go_wp2
       go_meet
       case rel => exact ⟨_, (x8_2), (by first | rfl | (simp; done) | (simp [*]; done)), H', ⟨by have := HJ3.out; have := HK2.out; first | omega | exact Nat.le_refl _⟩, ⟨pB⟩⟩
   case rest =>
    clear HC13
    try clear c1
    try clear q1
    try clear hcv1
    try clear p2
    try clear q2
    try clear hcv2
    try clear c4
    try clear c5
    try clear c5b0
    try clear c5b1
    try clear c6
    try clear c6b0
    try clear p6
    try clear q6
    try clear hx6
    try clear c7
    try clear c7b0
    try clear c8
    try clear c8b0
    try clear c8b1
    try clear c8b2
    try clear hcv11
    try clear q12
    try clear c14
    try clear c14b0
    try clear c14b1
    try clear c15
    try clear c15b0
    try clear c16
    try clear c16b0
    try clear c17
    try clear c17b0
    try clear c17b1
    try clear c17b2
    try clear hcv20
    try clear q21
    try clear hx620_0
    try clear hx624_0
    try clear p2
    try clear p6
    try clear p620
    try clear p624
    try clear q1
    try clear q12
    try clear q6
    try clear q620
    try clear q624
    obtain ⟨kq, x8_12, rfl, HA, HJ12, HB⟩ := hcut
    cases kq with
    | zero => exact absurd HA.out (by simp [minstrellaw05_DecNoughts.j3])
    | succ kj12 =>
     have H := HA.out
     clear HA
     simp only [minstrellaw05_DecNoughts.j3] at H
     by_cases c22 : x7_3.size + 1 ≤ 9223372036854775807
     ·rw [if_pos c22] at H
      have c22b0 := eq_true c22
      have c22b1 : decide (x7_3.size + 1 ≤ 9223372036854775807) = true := decide_eq_true c22
      try have c22b2 : (9223372036854775807 < x7_3.size + 1) = False := eq_false (Nat.not_lt.2 c22)
      by_cases c23 : (x7_3 ++ (⟨#[46]⟩ : ByteArray)).size + x8_12.size ≤ 9223372036854775807
      ·rw [if_pos c23] at H
       have c23b0 := eq_true c23
       have c23b1 : decide ((x7_3 ++ (⟨#[46]⟩ : ByteArray)).size + x8_12.size ≤ 9223372036854775807) = true := decide_eq_true c23
       try have c23b2 : (9223372036854775807 < (x7_3 ++ (⟨#[46]⟩ : ByteArray)).size + x8_12.size) = False := eq_false (Nat.not_lt.2 c23)
       try have c23b3 : (9223372036854775807 < x7_3.size + 1 + x8_12.size) = False := by have h_ := c23b2; simp only [ByteArray.size_append] at h_; exact h_
       replace H := Option.bind_eq_some_iff.mp H
       obtain ⟨⟨t628, t629⟩, A240, H⟩ := H
       try dsimp only at H
       have A24 := am A240
       clear A240
       have H' := am H
       clear H
       go_wp2_with (first | ((with_reducible refine gate_callee (f := 9) rfl ?_); refine goesL_ (some 64) rfl rfl Tryd.func9 (by kernel_rfl) rfl #[.string ((x7_3 ++ (⟨#[46]⟩ : ByteArray)) ++ x8_12)] rfl pM ?_; (with_reducible refine (dec_Parse.calls kj12 ((x7_3 ++ (⟨#[46]⟩ : ByteArray)) ++ x8_12) t628 t629 _ A24.out).mono ?_); rintro e w25 ⟨rfl, hb⟩; refine ⟨_, rfl, ?_⟩; replace HB := am (below_step pB hb); (try clear hb)))
       go_loopg [13, 14] kj12 (fun kq v13 v14 w' => ∃ (x13_3 : ByteArray) (x14_3 : Int), v13 = .string x13_3 ∧ v14 = .int .i64 x14_3 ∧ Aside0 (minstrellaw05_DecNoughts.l2 kq a2 x7_3 x8_12 t628 t629 x13_3 x14_3 = some r) ∧ Aside0 (kq ≤ kj12) ∧ Aside0 (Below w.heap.size w w'))
       case atStart => exact ⟨((x7_3 ++ (⟨#[46]⟩ : ByteArray)) ++ x8_12), (0), (by first | rfl | (simp; done) | (simp [*]; done)), (by first | rfl | (simp; done) | (simp [*]; done)), H', ⟨Nat.le_refl _⟩, ⟨pB⟩⟩
       case round =>
        clear H'
        try clear c1
        try clear q1
        try clear hcv1
        try clear c2
        try clear p2
        try clear q2
        try clear hcv2
        try clear c4
        try clear c5
        try clear c5b0
        try clear c5b1
        try clear c6
        try clear c6b0
        try clear p6
        try clear q6
        try clear hx6
        try clear c7
        try clear c7b0
        try clear c8
        try clear c8b0
        try clear c8b1
        try clear c8b2
        try clear c9
        try clear hcv11
        try clear q12
        try clear c14
        try clear c14b0
        try clear c14b1
        try clear c15
        try clear c15b0
        try clear c16
        try clear c16b0
        try clear c17
        try clear c17b0
        try clear c17b1
        try clear c17b2
        try clear hcv20
        try clear q21
        try clear c22
        try clear c22b0
        try clear c22b1
        try clear c22b2
        try clear c23
        try clear c23b0
        try clear c23b1
        try clear c23b2
        try clear hx620_0
        try clear hx624_0
        try clear p2
        try clear p6
        try clear p620
        try clear p624
        try clear q1
        try clear q12
        try clear q2
        try clear q21
        try clear q6
        try clear q620
        try clear q624
        obtain ⟨x13_3, x14_3, rfl, rfl, HA, HK3, HB⟩ := hrel
        cases gk with
        | zero => exact absurd HA.out (by simp [minstrellaw05_DecNoughts.l2])
        | succ k3 =>
         have H := HA.out
         clear HA
         simp only [minstrellaw05_DecNoughts.l2] at H
         by_cases c26 : x14_3 < (wrap64 (a2))
         ·rw [if_pos c26] at H
          have c26b0 : decide (x14_3 < (wrap64 (a2))) = true := decide_eq_true c26
          clear c26
          by_cases c27 : x13_3.size + 1 ≤ 9223372036854775807
          ·rw [if_pos c27] at H
           have c27b0 := eq_true c27
           have c27b1 : decide (x13_3.size + 1 ≤ 9223372036854775807) = true := decide_eq_true c27
           try have c27b2 : (9223372036854775807 < x13_3.size + 1) = False := eq_false (Nat.not_lt.2 c27)
           have H' := am H
           clear H
           go_wp2
           go_roundg k3
           case measure => have := HJ3.out; have := HJ12.out; have := HK3.out; omega
           case rel => exact ⟨(x13_3 ++ (⟨#[48]⟩ : ByteArray)), (wrap64 (x14_3 + 1)), (by first | rfl | (simp; done) | (simp [*]; done)), (by first | rfl | (simp; done) | (simp [*]; done)), H', ⟨by have := HJ3.out; have := HJ12.out; have := HK3.out; omega⟩, ⟨pB⟩⟩
          ·rw [if_neg c27] at H
           exact absurd H (by simp)
         ·rw [if_neg c26] at H
          have c26b0 : decide (x14_3 < (wrap64 (a2))) = false := decide_eq_false c26
          clear c26
          replace H := Option.bind_eq_some_iff.mp H
          obtain ⟨⟨t630, t631⟩, A280, H⟩ := H
          try dsimp only at H
          have A28 := am A280
          clear A280
          by_cases c29 : x13_3.size + 2 ≤ 9223372036854775807
          ·rw [if_pos c29] at H
           have c29b0 := eq_true c29
           have c29b1 : decide (x13_3.size + 2 ≤ 9223372036854775807) = true := decide_eq_true c29
           try have c29b2 : (9223372036854775807 < x13_3.size + 2) = False := eq_false (Nat.not_lt.2 c29)
           replace H := Option.bind_eq_some_iff.mp H
           obtain ⟨⟨t632, t633⟩, A300, H⟩ := H
           try dsimp only at H
           have A30 := am A300
           clear A300
           by_cases c31 : t628 = t630
           ·rw [if_pos c31] at H
            have c31b0 : (t628 == t630) = true := beq_iff_eq.mpr c31
            have c31b1 : (t628 != t630) = false := bne_eq_false_iff_eq.mpr c31
            clear c31
            by_cases c32 : t628 = t632
            ·rw [if_pos c32] at H
             have c32b0 : (t628 == t632) = true := beq_iff_eq.mpr c32
             have c32b1 : (t628 != t632) = false := bne_eq_false_iff_eq.mpr c32
             clear c32
             by_cases c33 : t629 = 0
             ·rw [if_pos c33] at H
              have c33b0 : (t629 == 0) = true := beq_iff_eq.mpr c33
              have c33b1 : (t629 != 0) = false := bne_eq_false_iff_eq.mpr c33
              clear c33
              by_cases c34 : t631 = t629
              ·rw [if_pos c34] at H
               have c34b0 : (t631 == t629) = true := beq_iff_eq.mpr c34
               have c34b1 : (t631 != t629) = false := bne_eq_false_iff_eq.mpr c34
               clear c34
               by_cases c35 : t633 = t629
               ·rw [if_pos c35] at H
                have c35b0 : (t633 == t629) = true := beq_iff_eq.mpr c35
                have c35b1 : (t633 != t629) = false := bne_eq_false_iff_eq.mpr c35
                clear c35
                by_cases c36 : x7_3.size + x8_12.size ≤ 9223372036854775807
                ·rw [if_pos c36] at H
                 have c36b0 := eq_true c36
                 have c36b1 : decide (x7_3.size + x8_12.size ≤ 9223372036854775807) = true := decide_eq_true c36
                 try have c36b2 : (9223372036854775807 < x7_3.size + x8_12.size) = False := eq_false (Nat.not_lt.2 c36)
                 replace H := Option.bind_eq_some_iff.mp H
                 obtain ⟨t634, A370, H⟩ := H
                 try dsimp only at H
                 have A37 := am A370
                 clear A370
                 by_cases c38 : t628 = t634
                 ·rw [if_pos c38] at H
                  have c38b0 : (t628 == t634) = true := beq_iff_eq.mpr c38
                  have c38b1 : (t628 != t634) = false := bne_eq_false_iff_eq.mpr c38
                  clear c38
                  replace H := Option.bind_eq_some_iff.mp H
                  obtain ⟨t635, A390, H⟩ := H
                  try dsimp only at H
                  have A39 := am A390
                  clear A390
                  obtain rfl := Option.some.inj H
                  have hw_ : wrap64 (-(x8_12.size : Int)) = -(x8_12.size : Int) := by have h_ := of_eq_false c23b3; unfold wrap64; omega
                  go_wp2_with (first | ((with_reducible refine gate_callee (f := 9) rfl ?_); refine goesL_ (some 81) rfl rfl Tryd.func9 (by kernel_rfl) rfl #[.string x13_3] rfl pM ?_; (with_reducible refine (dec_Parse.calls k3 x13_3 t630 t631 _ A28.out).mono ?_); rintro e w40 ⟨rfl, hb⟩; refine ⟨_, rfl, ?_⟩; replace HB := am (below_step pB hb); (try clear hb)) | ((with_reducible refine gate_callee (f := 9) rfl ?_); refine goesL_ (some 87) rfl rfl Tryd.func9 (by kernel_rfl) rfl #[.string (x13_3 ++ (⟨#[101, 48]⟩ : ByteArray))] rfl pM ?_; (with_reducible refine (dec_Parse.calls k3 (x13_3 ++ (⟨#[101, 48]⟩ : ByteArray)) t632 t633 _ A30.out).mono ?_); rintro e w41 ⟨rfl, hb⟩; refine ⟨_, rfl, ?_⟩; replace HB := am (below_step pB hb); (try clear hb)) | (go_at_call 11; (with_reducible refine (r5_Near.calls k3 (x7_3 ++ x8_12) (-(x8_12.size : Int)) t634 _ (hw_ ▸ A37.out)).mono ?_); rintro e w42 ⟨rfl, hb⟩; replace HB := am (below_step pB hb); (try clear hb)) | (go_at_call 7; (with_reducible refine (minstrellaw05_lives.calls k3  t635 _ ?side1 A39.out).mono ?_); (case side1 => exact pG); rintro e w43 ⟨rfl, hb⟩; replace HB := am (below_step pB hb)))
                  go_ret
                  exact ⟨pE, pB⟩
                 ·rw [if_neg c38] at H
                  exact absurd H (by simp)
                ·rw [if_neg c36] at H
                 exact absurd H (by simp)
               ·rw [if_neg c35] at H
                exact absurd H (by simp)
              ·rw [if_neg c34] at H
               exact absurd H (by simp)
             ·rw [if_neg c33] at H
              exact absurd H (by simp)
            ·rw [if_neg c32] at H
             exact absurd H (by simp)
           ·rw [if_neg c31] at H
            exact absurd H (by simp)
          ·rw [if_neg c29] at H
           exact absurd H (by simp)
      ·rw [if_neg c23] at H
       exact absurd H (by simp)
     ·rw [if_neg c22] at H
      exact absurd H (by simp)
def minstrellaw05_DecNoughts.Pure : Prop := ∀ (l0 : List Int) (l1 : List Int) (a2 : Int), l0.length ≤ maxLen → l0.length * 1 ≤ 140737488351232 → (∀ x ∈ l0, (Lit.int .u8 x).wf = true) → l1.length ≤ maxLen → l1.length * 1 ≤ 140737488351232 → (∀ x ∈ l1, (Lit.int .u8 x).wf = true) → (Lit.int .u8 a2).wf = true → ∃ k, minstrellaw05_DecNoughts.f k l0 l1 a2 = some true
end Go.Proofs.YtflcanpajgpghaaDoor.Pr
end
section

end
section
namespace Go.Proofs.YtflcanpajgpghaaDoor.Pure
open Go.RowKit Go.Proofs.YtflcanpajgpghaaDoor.Pr Go.Proofs.YtflcanpajgpghaaDoorW.PrintWords Go.Proofs.YtflcanpajgpghaaDoorW.PrintLast Go.Proofs.YtflcanpajgpghaaDoorW.PrintMore
def toB (x : Nat) : List Int := if x = 0 then [] else ((x % 4294967296 : Nat) : Int) :: toB (x / 4294967296)
termination_by x
decreasing_by omega
theorem toB_zero : toB 0 = [] := by rw [toB]; rfl
theorem toB_pos {x : Nat} (h : x ≠ 0) : toB x = ((x % 4294967296 : Nat) : Int) :: toB (x / 4294967296) := by rw [toB, if_neg h]
def valB : List Int → Nat
 | [] => 0
 | a :: l => a.toNat + 4294967296 * valB l
def Parts (l : List Int) : Prop := ∀ x ∈ l, 0 ≤ x ∧ x < 4294967296
theorem val_toB (x : Nat) : valB (toB x) = x := by
 induction x using Nat.strongRecOn with
 | _ x ih =>
  by_cases h : x = 0
  ·subst h; rw [toB_zero]; rfl
  ·rw [toB_pos h, valB, ih (x / 4294967296) (by omega), Int.toNat_natCast]
   omega
theorem parts_toB (x : Nat) : Parts (toB x) := by
 induction x using Nat.strongRecOn with
 | _ x ih =>
  by_cases h : x = 0
  ·subst h; rw [toB_zero]; intro y hy; cases hy
  ·rw [toB_pos h]
   intro y hy
   rcases List.mem_cons.1 hy with rfl | hy
   ·omega
   ·exact ih (x / 4294967296) (by omega) y hy
theorem val_append (l m : List Int) : valB (l ++ m) = valB l + 4294967296 ^ l.length * valB m := by
 induction l with
 | nil => simp [valB]
 | cons a l ih =>
  rw [List.cons_append, valB, valB, ih, List.length_cons, Nat.pow_succ, Nat.mul_add, ← Nat.mul_assoc, Nat.mul_comm 4294967296 (4294967296 ^ l.length)]
  omega
theorem val_lt {l : List Int} (h : Parts l) : valB l < 4294967296 ^ l.length := by
 induction l with
 | nil => simp [valB]
 | cons a l ih =>
  have h1 := ih (fun x hx => h x (List.mem_cons_of_mem _ hx))
  have h2 := h a (List.mem_cons_self ..)
  rw [valB, List.length_cons, Nat.pow_succ]
  omega
theorem toB_val {l : List Int} (h : Parts l) (hl : l = [] ∨ l.getLast? ≠ some 0) : toB (valB l) = l := by
 induction l with
 | nil => exact toB_zero
 | cons a l ih =>
  have h2 := h a (List.mem_cons_self ..)
  have hp : Parts l := fun x hx => h x (List.mem_cons_of_mem _ hx)
  have hlast : (a :: l).getLast? ≠ some 0 := hl.resolve_left (by simp)
  have hne : valB (a :: l) ≠ 0 := by
   intro h0
   rw [valB] at h0
   by_cases hn : l = []
   ·subst hn
    simp at hlast
    omega
   ·have := ih hp (.inr (by
     cases l with
     | nil => exact absurd rfl hn
     | cons b l => rwa [List.getLast?_cons_cons] at hlast))
    have h3 : valB l = 0 := by omega
    rw [h3, toB_zero] at this
    exact hn this.symm
  rw [toB_pos hne]
  have e1 : (valB (a :: l) % 4294967296 : Nat) = a.toNat := by rw [valB]; omega
  have e2 : valB (a :: l) / 4294967296 = valB l := by rw [valB]; omega
  rw [e1, e2, ih hp (by
   by_cases hn : l = []
   ·exact .inl hn
   ·refine .inr ?_
    cases l with
    | nil => exact absurd rfl hn
    | cons b l => rwa [List.getLast?_cons_cons] at hlast)]
  congr 1
  omega
theorem wrapB (n : Int) (h0 : -9223372036854775808 ≤ n) (h1 : n ≤ 9223372036854775807) : wrap64 n = n := by unfold wrap64; omega
theorem parts_append {l m : List Int} (h : Parts l) (g : Parts m) : Parts (l ++ m) := fun x hx => (List.mem_append.1 hx).elim (h x) (g x)
theorem rd_last (m : List Int) (a : Int) : rd (m ++ [a]) (m.length : Int) = a := by
 unfold rd
 rw [Int.toNat_natCast, List.getD_eq_getElem?_getD, List.getElem?_append_right (Nat.le_refl _), Nat.sub_self]
 rfl
theorem trim_ev : ∀ (n : Nat) (l : List Int), l.length = n → Parts l → n ≤ 4611686018427387904 → Ev (fun k => b_trim.l0 k l) (toB (valB l))
 | 0, l, hn, hp, hb => by
  obtain rfl := List.eq_nil_of_length_eq_zero hn
  refine Ev.step (f := fun k => some []) (fun k => ?_) (by rw [show valB [] = 0 from rfl, toB_zero]; exact Ev.now _)
  rw [b_trim.l0, if_neg (by simp)]
 | n + 1, l, hn, hp, hb => by
  obtain ⟨m, a, rfl⟩ : ∃ m a, l = m ++ [a] := ⟨l.dropLast, l.getLast (by intro h; rw [h] at hn; cases hn), (List.dropLast_concat_getLast _).symm⟩
  have hm : m.length = n := by rw [List.length_append, List.length_singleton] at hn; omega
  have hlen : (((m ++ [a]).length : Nat) : Int) = (m.length : Int) + 1 := by rw [List.length_append, List.length_singleton]; omega
  have hw : wrap64 (((m ++ [a]).length : Int) - 1) = (m.length : Int) := by rw [hlen, wrapB _ (by omega) (by omega)]; omega
  have hpm : Parts m := fun x hx => hp x (List.mem_append_left _ hx)
  have ha := hp a (List.mem_append_right _ (List.mem_singleton.2 rfl))
  by_cases h0 : a = 0
  ·have ih := trim_ev n m hm hpm (by omega)
   have hv : valB (m ++ [a]) = valB m := by rw [val_append, h0]; simp [valB]
   rw [hv]
   refine Ev.step (fun k => ?_) ih
   rw [b_trim.l0, if_pos (by omega), hw, if_pos (by omega), if_pos (by omega), rd_last, if_pos h0, if_pos (by omega), Int.toNat_natCast, List.take_left']
   rfl
  ·refine Ev.step (f := fun k => some (m ++ [a])) (fun k => ?_) ?_
   ·rw [b_trim.l0, if_pos (by omega), hw, if_pos (by omega), if_pos (by omega), rd_last, if_neg h0]
   ·rw [toB_val hp (.inr (by rw [List.getLast?_append]; simp; exact h0))]
    exact Ev.now _
theorem mul_small {x n c : Nat} (hx : x < 4294967296) (hn : n < 4294967296) (hc : c < 4294967296) : c + x * n < 18446744073709551616 ∧ (c + x * n) / 4294967296 < 4294967296 := by
 have h : x * n ≤ 4294967295 * 4294967295 := Nat.mul_le_mul (by omega) (by omega)
 have h2 : (4294967295 : Nat) * 4294967295 = 18446744065119617025 := rfl
 omega
theorem u64_in (n : Nat) (h : n < 18446744073709551616) : IntKind.u64.wrap (n : Int) = (n : Int) := by
 unfold IntKind.wrap
 simp [IntKind.bits, IntKind.signed]
 omega
theorem val_drop {l : List Int} {i : Nat} (h : i < l.length) : valB (l.drop i) = (l.getD i 0).toNat + 4294967296 * valB (l.drop (i + 1)) := by
 rw [List.drop_eq_getElem_cons h, valB, List.getD_eq_getElem?_getD, List.getElem?_eq_getElem h]
 rfl
theorem times_loop (l : List Int) (n : Nat) (hn : n < 4294967296) (hl : l.length ≤ 1048576) (hp : Parts l) : ∀ (d i : Nat) (acc : List Int) (c : Nat), i + d = l.length → acc.length = i → Parts acc → c < 4294967296 →
  Ev (fun k => b_times.l0 k (n : Int) acc (c : Int) l (l.length : Int) (i : Int)) (toB (valB acc + 4294967296 ^ i * (valB (l.drop i) * n + c)))
 | 0, i, acc, c, hi, ha, hpa, hc => by
  have hd : l.drop i = [] := List.drop_eq_nil_of_le (by omega)
  have hv : valB acc + 4294967296 ^ i * (valB (l.drop i) * n + c) = valB (acc ++ [(c : Int) % 4294967296]) := by
   rw [hd, val_append, ha]
   simp only [valB, Nat.zero_mul, Nat.zero_add, Nat.mul_zero, Nat.add_zero]
   congr 2
   omega
  rw [hv]
  have ht := trim_ev (acc ++ [(c : Int) % 4294967296]).length (acc ++ [(c : Int) % 4294967296]) rfl (parts_append hpa (fun x hx => by rw [List.mem_singleton.1 hx]; omega)) (by rw [List.length_append, List.length_singleton]; omega)
  have hb : Ev (fun k => (b_trim.f k (acc ++ [(c : Int) % 4294967296])).bind fun t => some t) (toB (valB (acc ++ [(c : Int) % 4294967296]))) := Ev.bind ht (Ev.now _)
  refine Ev.step (fun k => ?_) hb
  rw [b_times.l0, if_neg (by omega), if_pos (by omega)]
 | d + 1, i, acc, c, hi, ha, hpa, hc => by
  have hlt : i < l.length := by omega
  obtain ⟨x, hx, hx2⟩ : ∃ x : Nat, l.getD i 0 = (x : Int) ∧ x < 4294967296 := by
   have := hp (l.getD i 0) (by rw [List.getD_eq_getElem?_getD, List.getElem?_eq_getElem hlt]; exact List.getElem_mem hlt)
   exact ⟨(l.getD i 0).toNat, by omega, by omega⟩
  have hrd : rd l (i : Int) = (x : Int) := by unfold rd; rw [Int.toNat_natCast]; exact hx
  obtain ⟨hs1, hs2⟩ := mul_small hx2 hn hc
  have hxn : x * n < 18446744073709551616 := by omega
  have he : IntKind.u64.wrap ((c : Int) + (IntKind.u64.wrap ((IntKind.u64.wrap (rd l (i : Int))) * (IntKind.u64.wrap ((n : Nat) : Int))))) = ((c + x * n : Nat) : Int) := by
   rw [hrd, u64_in x (by omega), u64_in n (by omega), show ((x : Int) * (n : Int)) = ((x * n : Nat) : Int) by push_cast; rfl, u64_in _ hxn, show ((c : Int) + ((x * n : Nat) : Int)) = ((c + x * n : Nat) : Int) by push_cast; rfl, u64_in _ hs1]
  have ih := times_loop l n hn hl hp d (i + 1) (acc ++ [(((c + x * n) % 4294967296 : Nat) : Int)]) ((c + x * n) / 4294967296) (by omega) (by rw [List.length_append, List.length_singleton]; omega) (parts_append hpa (fun y hy => by rw [List.mem_singleton.1 hy]; omega)) hs2
  have hv : valB acc + 4294967296 ^ i * (valB (l.drop i) * n + c) = valB (acc ++ [(((c + x * n) % 4294967296 : Nat) : Int)]) + 4294967296 ^ (i + 1) * (valB (l.drop (i + 1)) * n + (c + x * n) / 4294967296) := by
   rw [val_append, ha, val_drop hlt, hx, Int.toNat_natCast, Nat.pow_succ, Nat.mul_assoc, Nat.add_assoc, ← Nat.mul_add]
   simp only [valB, Nat.mul_zero, Nat.add_zero, Int.toNat_natCast]
   congr 2
   rw [Nat.add_mul, Nat.mul_assoc, Nat.mul_add]
   generalize valB (l.drop (i + 1)) * n = v
   have := Nat.mod_add_div (c + x * n) 4294967296
   omega
  rw [hv]
  refine Ev.step (fun k => ?_) ih
  rw [b_times.l0, if_pos (by omega), if_pos (by omega), if_pos (by omega), if_pos (by omega), he, wrapB _ (by omega) (by omega)]
  simp only [Int.natCast_emod, Int.natCast_ediv, Int.natCast_add, Int.natCast_one]
  rfl
theorem times_ev (x n m : Nat) (hn : n < 4294967296) (hm : m < 4294967296) (hl : (toB x).length ≤ 1048576) : Ev (fun k => b_times.f k (toB x) (n : Int) (m : Int)) (toB (x * n + m)) := by
 have h := times_loop (toB x) n hn hl (parts_toB x) (toB x).length 0 [] m (by omega) rfl (fun y hy => by cases hy) hm
 rw [List.drop_zero, val_toB, Nat.pow_zero, Nat.one_mul] at h
 have e : valB [] + (x * n + m) = x * n + m := by simp [valB]
 rw [e] at h
 refine Ev.congr (fun k => ?_) h
 unfold b_times.f
 rw [wrapB _ (by omega) (by omega), if_pos (by omega), if_pos (by omega), u64_in m (by omega)]
 rfl
theorem len_toB : ∀ (L x : Nat), x < 4294967296 ^ L → (toB x).length ≤ L
 | 0, x, h => by
  have : x = 0 := by rw [Nat.pow_zero] at h; omega
  rw [this, toB_zero]; exact Nat.le_refl _
 | L + 1, x, h => by
  by_cases h0 : x = 0
  ·rw [h0, toB_zero]; exact Nat.zero_le _
  ·rw [toB_pos h0, List.length_cons]
   have : x / 4294967296 < 4294967296 ^ L := by
    rw [Nat.pow_succ] at h
    exact Nat.div_lt_of_lt_mul (by rw [Nat.mul_comm]; exact h)
   have := len_toB L _ this
   omega
theorem tens1 (n : Nat) (hn : n ≤ 1048576) (L : Nat) (hL : L ≤ 1048576) : ∀ (d j x : Nat), j + d = n → x * 10 ^ d < 4294967296 ^ L → Ev (fun k => b_tens.l1 k (toB x) (n : Int) (j : Int)) (toB (x * 10 ^ d))
 | 0, j, x, hj, hx => by
  rw [Nat.pow_zero, Nat.mul_one]
  refine Ev.step (f := fun k => some (toB x)) (fun k => ?_) (Ev.now _)
  rw [b_tens.l1, if_neg (by omega)]
 | d + 1, j, x, hj, hx => by
  have h1 : x * 10 * 10 ^ d = x * 10 ^ (d + 1) := by rw [Nat.pow_succ, Nat.mul_assoc, Nat.mul_comm 10]
  have hxl : x < 4294967296 ^ L := Nat.lt_of_le_of_lt (Nat.le_mul_of_pos_right _ (Nat.pow_pos (by decide))) hx
  have ih := tens1 n hn L hL d (j + 1) (x * 10) (by omega) (by rw [h1]; exact hx)
  rw [h1] at ih
  have ht := times_ev x 10 0 (by decide) (by decide) (Nat.le_trans (len_toB L x hxl) hL)
  rw [Nat.add_zero] at ht
  have hb : Ev (fun k => (b_times.f k (toB x) 10 0).bind fun t => b_tens.l1 k t (n : Int) ((j + 1 : Nat) : Int)) (toB (x * 10 ^ (d + 1))) := Ev.bind ht ih
  refine Ev.step (fun k => ?_) hb
  rw [b_tens.l1, if_pos (by omega), wrapB _ (by omega) (by omega)]
  rfl
theorem tens0 (L : Nat) (hL : L ≤ 1048576) : ∀ (n x : Nat), n ≤ 1048576 → x * 10 ^ n < 4294967296 ^ L → Ev (fun k => b_tens.l0 k (toB x) (n : Int)) (toB (x * 10 ^ n)) := by
 intro n
 induction n using Nat.strongRecOn with
 | _ n ih =>
  intro x hn hx
  by_cases h9 : 9 ≤ n
  ·obtain ⟨m, rfl⟩ := Nat.exists_eq_add_of_le h9
   have h1 : x * 1000000000 * 10 ^ m = x * 10 ^ (9 + m) := by rw [Nat.pow_add, ← Nat.mul_assoc]
   have hxl : x < 4294967296 ^ L := Nat.lt_of_le_of_lt (Nat.le_mul_of_pos_right _ (Nat.pow_pos (by decide))) hx
   have g := ih m (by omega) (x * 1000000000) (by omega) (by rw [h1]; exact hx)
   rw [h1] at g
   have ht := times_ev x 1000000000 0 (by decide) (by decide) (Nat.le_trans (len_toB L x hxl) hL)
   rw [Nat.add_zero] at ht
   have hb : Ev (fun k => (b_times.f k (toB x) 1000000000 0).bind fun t => b_tens.l0 k t (m : Int)) (toB (x * 10 ^ (9 + m))) := Ev.bind ht g
   refine Ev.step (fun k => ?_) hb
   rw [b_tens.l0, if_pos (by omega), wrapB _ (by omega) (by omega), show (((9 + m : Nat) : Int) - 9) = (m : Int) by omega]
  ·have g := tens1 n hn L hL n 0 x (by omega) hx
   refine Ev.step (fun k => ?_) g
   rw [b_tens.l0, if_neg (by omega)]
   rfl
end Go.Proofs.YtflcanpajgpghaaDoor.Pure
end
section
namespace Go.Proofs.YtflcanpajgpghaaDoor.Pure
open Go.RowKit Go.Proofs.YtflcanpajgpghaaDoor.Pr Go.Proofs.YtflcanpajgpghaaDoorW.PrintWords Go.Proofs.YtflcanpajgpghaaDoorW.PrintLast Go.Proofs.YtflcanpajgpghaaDoorW.PrintMore
theorem bitLen_spec : ∀ (x : Nat), x ≠ 0 → x < 2 ^ 64 → 1 ≤ Lib.bitLen x ∧ 2 ^ (Lib.bitLen x - 1) ≤ x ∧ x < 2 ^ (Lib.bitLen x) := by
 intro x
 induction x using Nat.strongRecOn with
 | _ x ih =>
  intro h0 h
  rw [Lib.bitLen_half x h0 h]
  by_cases h1 : x / 2 = 0
  ·obtain rfl : x = 1 := by omega
   decide
  ·obtain ⟨c, a, b⟩ := ih (x / 2) (by omega) h1 (by omega)
   obtain ⟨n, hn⟩ : ∃ n, Lib.bitLen (x / 2) = n + 1 := ⟨_, (Nat.sub_add_cancel c).symm⟩
   rw [hn] at a b ⊢
   rw [Nat.add_sub_cancel] at a
   refine ⟨by omega, ?_, ?_⟩
   ·rw [show 1 + (n + 1) - 1 = n + 1 by omega, Nat.pow_succ]; omega
   ·rw [show 1 + (n + 1) = (n + 1) + 1 by omega, Nat.pow_succ 2 (n + 1)]; omega
def LenIs (x L : Nat) : Prop := (x = 0 → L = 0) ∧ (x ≠ 0 → 1 ≤ L ∧ 2 ^ (L - 1) ≤ x ∧ x < 2 ^ L)
theorem lenIs_lt {x L : Nat} (h : LenIs x L) : x < 2 ^ L := by
 by_cases h0 : x = 0
 ·rw [h0]; exact Nat.two_pow_pos _
 ·exact (h.2 h0).2.2
theorem base_pow (n : Nat) : (4294967296 : Nat) ^ n = 2 ^ (32 * n) := by rw [Nat.pow_mul]
theorem base_pos (n : Nat) : 0 < (4294967296 : Nat) ^ n := Nat.pow_pos (by decide)
theorem toB_last {x : Nat} (h : x ≠ 0) : ∃ (m : List Int) (a : Nat), toB x = m ++ [(a : Int)] ∧ 0 < a ∧ a < 4294967296 := by
 induction x using Nat.strongRecOn with
 | _ x ih =>
  rw [toB_pos h]
  by_cases h1 : x / 4294967296 = 0
  ·rw [h1, toB_zero]
   exact ⟨[], x % 4294967296, rfl, by omega, by omega⟩
  ·obtain ⟨m, a, e, h2, h3⟩ := ih (x / 4294967296) (by omega) h1
   exact ⟨_ :: m, a, by rw [e]; rfl, h2, h3⟩
theorem toB_split {x : Nat} (h : x ≠ 0) : ∃ (m : List Int) (a : Nat), toB x = m ++ [(a : Int)] ∧ 0 < a ∧ a < 4294967296 ∧ x = valB m + 4294967296 ^ m.length * a ∧ valB m < 4294967296 ^ m.length := by
 obtain ⟨m, a, e, h1, h2⟩ := toB_last h
 refine ⟨m, a, e, h1, h2, ?_, ?_⟩
 ·have := val_toB x
  rw [e, val_append] at this
  rw [← this]
  simp [valB]
 ·have hp := parts_toB x
  rw [e] at hp
  exact val_lt fun y hy => hp y (List.mem_append_left _ hy)
theorem len_ev (x : Nat) (hl : (toB x).length ≤ 1048576) : ∃ L : Nat, b_len.f (toB x) = some (L : Int) ∧ LenIs x L ∧ L ≤ 32 * (toB x).length := by
 by_cases h0 : x = 0
 ·subst h0
  refine ⟨0, ?_, ⟨fun _ => rfl, fun h => absurd rfl h⟩, by omega⟩
  rw [toB_zero]
  rfl
 ·obtain ⟨m, a, e, h1, h2, hx, hm⟩ := toB_split h0
  obtain ⟨b1, b2, b3⟩ := bitLen_spec a (by omega) (by omega)
  have b4 := Lib.bitLen_le a 32 (by omega) (by omega)
  refine ⟨32 * m.length + Lib.bitLen a, ?_, ⟨fun h => absurd h h0, fun _ => ⟨by omega, ?_, ?_⟩⟩, ?_⟩
  ·have hlen : (((toB x).length : Nat) : Int) = (m.length : Int) + 1 := by rw [e, List.length_append, List.length_singleton]; omega
   have hml : m.length < 1048576 := by rw [e, List.length_append, List.length_singleton] at hl; omega
   unfold b_len.f
   rw [hlen, if_neg (by omega), wrapB _ (by omega) (by omega), if_pos (by omega), if_pos (by omega), show ((m.length : Int) + 1 - 1) = (m.length : Int) by omega, e, rd_last]
   unfold bits_Len32.f
   rw [if_pos (by omega), Option.bind_some, Int.toNat_natCast, wrapB (32 * _) (by omega) (by omega), wrapB _ (by omega) (by omega)]
   congr 1
  ·rw [show 32 * m.length + Lib.bitLen a - 1 = 32 * m.length + (Lib.bitLen a - 1) by omega, Nat.pow_add, ← base_pow]
   have := Nat.mul_le_mul_left (4294967296 ^ m.length) b2
   omega
  ·rw [Nat.pow_add, ← base_pow]
   have := Nat.mul_le_mul_left (4294967296 ^ m.length) b3
   rw [Nat.mul_succ] at this
   omega
  ·rw [e, List.length_append, List.length_singleton]; omega
theorem toB_len_lt {x y : Nat} (h : (toB x).length < (toB y).length) : x < y := by
 have h1 : x < 4294967296 ^ (toB x).length := by
  have := val_lt (parts_toB x)
  rwa [val_toB] at this
 have hy : y ≠ 0 := by intro h0; rw [h0, toB_zero] at h; exact absurd h (Nat.not_lt_zero _)
 obtain ⟨m, a, e, h2, h3, h4, h5⟩ := toB_split hy
 rw [e, List.length_append, List.length_singleton] at h
 have h6 : 4294967296 ^ (toB x).length ≤ 4294967296 ^ m.length := Nat.pow_le_pow_right (by decide) (by omega)
 have h7 : 4294967296 ^ m.length * 1 ≤ 4294967296 ^ m.length * a := Nat.mul_le_mul_left _ h2
 omega
theorem len_mono {x y : Nat} (h : x ≤ y) : (toB x).length ≤ (toB y).length := by
 apply Nat.le_of_not_lt
 intro hlt
 have := toB_len_lt hlt
 omega
theorem val_take {l : List Int} {i : Nat} (h : i < l.length) : valB (l.take (i + 1)) = valB (l.take i) + 4294967296 ^ i * (l.getD i 0).toNat := by
 rw [List.take_succ_eq_append_getElem h, val_append, List.length_take, Nat.min_eq_left (Nat.le_of_lt h), List.getD_eq_getElem?_getD, List.getElem?_eq_getElem h]
 simp [valB]
theorem val_take_lt {l : List Int} (hp : Parts l) {i : Nat} (h : i ≤ l.length) : valB (l.take i) < 4294967296 ^ i := by
 have := val_lt (l := l.take i) (fun x hx => hp x (List.mem_of_mem_take hx))
 rwa [List.length_take, Nat.min_eq_left h] at this
theorem getD_in {l : List Int} (hp : Parts l) {i : Nat} (h : i < l.length) : ∃ a : Nat, l.getD i 0 = (a : Int) ∧ a < 4294967296 := by
 have := hp (l.getD i 0) (by rw [List.getD_eq_getElem?_getD, List.getElem?_eq_getElem h]; exact List.getElem_mem h)
 exact ⟨(l.getD i 0).toNat, by omega, by omega⟩
theorem rd_nat (l : List Int) (i : Nat) : rd l (i : Int) = l.getD i 0 := by unfold rd; rw [Int.toNat_natCast]
theorem cmp_loop (l m : List Int) (hp : Parts l) (hm : Parts m) (hlen : l.length = m.length) (hb : l.length ≤ 1048576) : ∀ i, i ≤ l.length →
  ∃ c : Int, Ev (fun k => b_cmp.l0 k l m ((i : Int) - 1)) c ∧ (c < 0 ↔ valB (l.take i) < valB (m.take i)) ∧ (c = 0 ↔ valB (l.take i) = valB (m.take i))
 | 0, _ => by
  refine ⟨0, Ev.step (f := fun _ => some 0) (fun k => ?_) (Ev.now _), by simp [valB], by simp [valB]⟩
  rw [b_cmp.l0, if_neg (by omega)]
 | i + 1, hi => by
  obtain ⟨a, ha, ha2⟩ := getD_in hp (i := i) (by omega)
  obtain ⟨b, hb', hb2⟩ := getD_in hm (i := i) (by omega)
  have ha3 : (l.getD i 0).toNat = a := by rw [ha]; rfl
  have hb3 : (m.getD i 0).toNat = b := by rw [hb']; rfl
  have e1 := val_take (l := l) (i := i) (by omega)
  have e2 := val_take (l := m) (i := i) (by omega)
  have t1 := val_take_lt hp (i := i) (by omega)
  have t2 := val_take_lt hm (i := i) (by omega)
  rw [ha3] at e1
  rw [hb3] at e2
  have hk : ((i + 1 : Nat) : Int) - 1 = (i : Int) := by omega
  rw [hk, e1, e2]
  obtain ⟨P, hP⟩ : ∃ P, P = 4294967296 ^ i := ⟨_, rfl⟩
  rw [← hP] at t1 t2 ⊢
  by_cases hab : a = b
  ·obtain ⟨c, hc, c1, c2⟩ := cmp_loop l m hp hm hlen hb i (by omega)
   refine ⟨c, Ev.step (fun k => ?_) hc, ?_, ?_⟩
   ·rw [b_cmp.l0, if_pos (by omega), if_pos (by omega), if_pos (by omega), if_pos (by omega), rd_nat, rd_nat, if_pos (by rw [ha, hb', hab]), wrapB _ (by omega) (by omega)]
   ·rw [c1, hab]; omega
   ·rw [c2, hab]; omega
  ·by_cases hlt : a < b
   ·refine ⟨-1, Ev.step (f := fun _ => some (-1)) (fun k => ?_) (Ev.now _), ?_, ?_⟩
    ·rw [b_cmp.l0, if_pos (by omega), if_pos (by omega), if_pos (by omega), if_pos (by omega), rd_nat, rd_nat, if_neg (by rw [ha, hb']; omega), if_pos (by rw [ha, hb']; omega)]
    ·have : P * (a + 1) ≤ P * b := Nat.mul_le_mul_left _ hlt
     rw [Nat.mul_succ] at this
     omega
    ·have : P * (a + 1) ≤ P * b := Nat.mul_le_mul_left _ hlt
     rw [Nat.mul_succ] at this
     omega
   ·have hlt' : b < a := by omega
    refine ⟨1, Ev.step (f := fun _ => some 1) (fun k => ?_) (Ev.now _), ?_, ?_⟩
    ·rw [b_cmp.l0, if_pos (by omega), if_pos (by omega), if_pos (by omega), if_pos (by omega), rd_nat, rd_nat, if_neg (by rw [ha, hb']; omega), if_neg (by rw [ha, hb']; omega)]
    ·have : P * (b + 1) ≤ P * a := Nat.mul_le_mul_left _ hlt'
     rw [Nat.mul_succ] at this
     omega
    ·have : P * (b + 1) ≤ P * a := Nat.mul_le_mul_left _ hlt'
     rw [Nat.mul_succ] at this
     omega
theorem cmp_ev (x y : Nat) (hx : (toB x).length ≤ 1048576) (hy : (toB y).length ≤ 1048576) : ∃ c : Int, Ev (fun k => b_cmp.f k (toB x) (toB y)) c ∧ (c < 0 ↔ x < y) ∧ (c = 0 ↔ x = y) := by
 by_cases h : (toB x).length = (toB y).length
 ·obtain ⟨c, hc, c1, c2⟩ := cmp_loop (toB x) (toB y) (parts_toB x) (parts_toB y) h hx (toB x).length (Nat.le_refl _)
  rw [List.take_length, h, List.take_length, val_toB, val_toB] at c1 c2
  refine ⟨c, Ev.congr (fun k => ?_) hc, c1, c2⟩
  unfold b_cmp.f
  rw [if_pos (by rw [h]), wrapB _ (by omega) (by omega)]
 ·refine ⟨((toB x).length : Int) - ((toB y).length : Int), Ev.congr (f := fun _ => some (((toB x).length : Int) - ((toB y).length : Int))) (fun k => ?_) (Ev.now _), ?_, ?_⟩
  ·unfold b_cmp.f
   rw [if_neg (by omega), wrapB _ (by omega) (by omega)]
  ·constructor
   ·intro hc; exact toB_len_lt (by omega)
   ·intro hxy
    have := len_mono (Nat.le_of_lt hxy)
    omega
  ·constructor
   ·intro hc; omega
   ·intro hxy; rw [hxy] at h; exact absurd rfl h
theorem toB_shift {x : Nat} (h : x ≠ 0) : ∀ q, toB (x * 4294967296 ^ q) = List.replicate q 0 ++ toB x
 | 0 => by rw [Nat.pow_zero, Nat.mul_one]; rfl
 | q + 1 => by
  have h1 : x * 4294967296 ^ q ≠ 0 := Nat.mul_ne_zero h (Nat.ne_of_gt (base_pos q))
  have h2 : x * 4294967296 ^ (q + 1) = x * 4294967296 ^ q * 4294967296 := by rw [Nat.pow_succ, Nat.mul_assoc]
  rw [h2, toB_pos (Nat.mul_ne_zero h1 (by decide)), Nat.mul_mod_left, Nat.mul_div_cancel _ (by decide), toB_shift h q]
  rfl
theorem shl_u32 (n : Nat) (h : n < 32) : shl .u32 1 (n : Int) = ((2 ^ n : Nat) : Int) := by
 unfold shl
 rw [Int.toNat_natCast, show IntKind.u32.bits = 32 from rfl, Nat.min_eq_left (Nat.le_of_lt h), Int.one_mul]
 have : (2 : Nat) ^ n < 2 ^ 32 := Nat.pow_lt_pow_right (by decide) h
 have e : ((2 : Int) ^ n) = ((2 ^ n : Nat) : Int) := by push_cast; rfl
 rw [e]
 generalize (2 : Nat) ^ n = z at this
 unfold IntKind.wrap
 simp [IntKind.bits, IntKind.signed]
 omega
theorem up_ev (x n : Nat) (h : x ≠ 0 ∨ n < 32) (hl : (toB x).length + n / 32 ≤ 1048000) : Ev (fun k => b_up.f k (toB x) (n : Int)) (toB (x * 2 ^ n)) := by
 have hq : Int.tdiv (n : Int) 32 = ((n / 32 : Nat) : Int) := by rw [Int.tdiv_eq_ediv_of_nonneg (by omega)]; omega
 have hr : Int.tmod (n : Int) 32 = ((n % 32 : Nat) : Int) := by rw [Int.tmod_eq_emod_of_nonneg (by omega)]; omega
 have hlt : 2 ^ (n % 32) < 4294967296 := Nat.lt_of_lt_of_le (Nat.pow_lt_pow_right (by decide) (Nat.mod_lt n (by decide : 0 < 32))) (Nat.le_refl _)
 have ht := times_ev x (2 ^ (n % 32)) 0 hlt (by decide) (by omega)
 rw [Nat.add_zero] at ht
 have hx2 : x * 2 ^ n = x * 2 ^ (n % 32) * 4294967296 ^ (n / 32) := by
  rw [base_pow, Nat.mul_assoc, ← Nat.pow_add]
  congr 2
  omega
 have hlen2 : (toB (x * 2 ^ (n % 32))).length ≤ (toB x).length + 1 := by
  refine len_toB _ _ ?_
  have h1 : x < 4294967296 ^ (toB x).length := by
   have := val_lt (parts_toB x)
   rwa [val_toB] at this
  rw [Nat.pow_succ]
  exact Nat.mul_lt_mul_of_lt_of_lt h1 hlt
 have hres : toB (x * 2 ^ n) = List.replicate (n / 32) 0 ++ toB (x * 2 ^ (n % 32)) := by
  rw [hx2]
  by_cases h0 : x = 0
  ·subst h0
   have : n / 32 = 0 := by omega
   rw [this, Nat.zero_mul, Nat.zero_mul, toB_zero]
   rfl
  ·exact toB_shift (Nat.mul_ne_zero h0 (Nat.ne_of_gt (Nat.two_pow_pos _))) _
 rw [hres]
 have hb : Ev (fun k => (b_times.f k (toB x) ((2 ^ (n % 32) : Nat) : Int) 0).bind fun t => some (List.replicate (n / 32) 0 ++ t)) (List.replicate (n / 32) 0 ++ toB (x * 2 ^ (n % 32))) := Ev.bind ht (Ev.now _)
 refine Ev.congr (fun k => ?_) hb
 unfold b_up.f
 rw [hq, hr, wrapB ((n / 32 : Nat) : Int) (by omega) (by omega), wrapB (((n / 32 : Nat) : Int) + ((toB x).length : Int)) (by omega) (by omega), wrapB _ (by omega) (by omega), if_pos (by omega), if_pos (by omega), if_pos (by omega), Option.bind_some, Int.toNat_natCast, if_pos (by rw [List.length_replicate]; omega), Option.bind_some, if_pos (by rw [List.length_append, List.length_replicate]; omega), if_pos (by omega), shl_u32 _ (Nat.mod_lt _ (by decide)),
  List.drop_left' (List.length_replicate ..), List.take_left' (List.length_replicate ..)]
 cases hk : b_times.f k (toB x) ((2 ^ (n % 32) : Nat) : Int) 0 with
 | none => rfl
 | some t =>
  rw [Option.bind_some, Option.bind_some]
  have hk2 : t = toB (x * 2 ^ (n % 32)) := by
   obtain ⟨K, hK⟩ := ht
   have h1 := hK (max K k) (Nat.le_max_left ..)
   have h2 : b_times.f (max K k) (toB x) ((2 ^ (n % 32) : Nat) : Int) 0 = some t := by
    have : ∀ d, b_times.f (k + d) (toB x) ((2 ^ (n % 32) : Nat) : Int) 0 = some t := by
     intro d
     induction d with
     | zero => exact hk
     | succ d ih => exact b_times.mono _ _ _ _ _ ih
    have h3 := this (max K k - k)
    rwa [show k + (max K k - k) = max K k by omega] at h3
   have h3 : b_times.f (max K k) (toB x) ((2 ^ (n % 32) : Nat) : Int) 0 = some (toB (x * 2 ^ (n % 32))) := h1
   exact Option.some.inj (h2.symm.trans h3)
  unfold slices_Concat.f
  rw [if_pos (by simp [List.flatten]; rw [hk2]; omega)]
  simp [List.flatten]
end Go.Proofs.YtflcanpajgpghaaDoor.Pure
end
section
namespace Go.Proofs.YtflcanpajgpghaaDoor.Pure
open Go.RowKit Go.Proofs.YtflcanpajgpghaaDoor.Pr Go.Proofs.YtflcanpajgpghaaDoorW.PrintWords Go.Proofs.YtflcanpajgpghaaDoorW.PrintLast Go.Proofs.YtflcanpajgpghaaDoorW.PrintMore
theorem u64_neg (z : Int) (h : -9223372036854775808 ≤ z) (h1 : z < 0) : IntKind.u64.wrap z = z + 18446744073709551616 := by
 unfold IntKind.wrap
 simp [IntKind.bits, IntKind.signed]
 omega
theorem val_drop' (l : List Int) (i : Nat) (hp : Parts l) : ∃ b : Nat, b < 4294967296 ∧ valB (l.drop i) = b + 4294967296 * valB (l.drop (i + 1)) ∧ (i < l.length → rd l (i : Int) = (b : Int)) ∧ (l.length ≤ i → b = 0) := by
 by_cases h : i < l.length
 ·obtain ⟨b, hb, hb2⟩ := getD_in hp h
  refine ⟨b, hb2, ?_, fun _ => by rw [rd_nat, hb], fun h2 => by omega⟩
  rw [val_drop h, hb, Int.toNat_natCast]
 ·rw [List.drop_eq_nil_of_le (by omega), List.drop_eq_nil_of_le (by omega)]
  exact ⟨0, by decide, rfl, fun h2 => absurd h2 h, fun _ => rfl⟩
theorem minus_loop (l m : List Int) (hp : Parts l) (hm : Parts m) (hl : l.length ≤ 1048576) (hml : m.length ≤ 1048576) : ∀ (d i : Nat) (acc : List Int) (c : Nat), i + d = l.length → acc.length = i → Parts acc → c ≤ 1 → valB (m.drop i) + c ≤ valB (l.drop i) →
  Ev (fun k => b_minus.l0 k m acc (c : Int) l (l.length : Int) (i : Int)) (toB (valB acc + 4294967296 ^ i * (valB (l.drop i) - valB (m.drop i) - c)))
 | 0, i, acc, c, hi, ha, hpa, hc, hle => by
  have hd : l.drop i = [] := List.drop_eq_nil_of_le (by omega)
  rw [hd] at hle ⊢
  have e : valB ([] : List Int) - valB (m.drop i) - c = 0 := by simp [valB]
  rw [e, Nat.mul_zero, Nat.add_zero]
  have ht := trim_ev acc.length acc rfl hpa (by omega)
  have hb : Ev (fun k => (b_trim.f k acc).bind fun t => some t) (toB (valB acc)) := Ev.bind ht (Ev.now _)
  refine Ev.step (fun k => ?_) hb
  rw [b_minus.l0, if_neg (by omega)]
 | d + 1, i, acc, c, hi, ha, hpa, hc, hle => by
  obtain ⟨a, ha2, hL, hra, _⟩ := val_drop' l i hp
  obtain ⟨b, hb2, hM, hrb, hb0⟩ := val_drop' m i hm
  have hra := hra (by omega)
  obtain ⟨L, hLe⟩ : ∃ L, L = valB (l.drop (i + 1)) := ⟨_, rfl⟩
  obtain ⟨M, hMe⟩ : ∃ M, M = valB (m.drop (i + 1)) := ⟨_, rfl⟩
  rw [hL, hM, ← hLe, ← hMe] at hle ⊢
  obtain ⟨e, c', he, hc', hwe, hwc⟩ : ∃ e c' : Nat, (e + b + c = a + 4294967296 * c' ∧ e < 4294967296) ∧ c' ≤ 1 ∧ (IntKind.u64.wrap ((a : Int) - ((c : Int) + (b : Int)))) % 4294967296 = (e : Int) ∧ (IntKind.u64.wrap ((a : Int) - ((c : Int) + (b : Int)))) / 9223372036854775808 = (c' : Int) := by
   by_cases h : b + c ≤ a
   ·refine ⟨a - b - c, 0, ⟨by omega, by omega⟩, by omega, ?_, ?_⟩
    ·rw [show ((a : Int) - ((c : Int) + (b : Int))) = ((a - b - c : Nat) : Int) by omega, u64_in _ (by omega)]; omega
    ·rw [show ((a : Int) - ((c : Int) + (b : Int))) = ((a - b - c : Nat) : Int) by omega, u64_in _ (by omega)]; omega
   ·refine ⟨a + 4294967296 - b - c, 1, ⟨by omega, by omega⟩, by omega, ?_, ?_⟩
    ·rw [u64_neg _ (by omega) (by omega)]; omega
    ·rw [u64_neg _ (by omega) (by omega)]; omega
  have hle2 : M + c' ≤ L := by omega
  have ih := minus_loop l m hp hm hl hml d (i + 1) (acc ++ [(e : Int)]) c' (by omega) (by rw [List.length_append, List.length_singleton]; omega) (parts_append hpa (fun y hy => by rw [List.mem_singleton.1 hy]; omega)) hc' (by rw [← hLe, ← hMe]; exact hle2)
  rw [← hLe, ← hMe] at ih
  have hv : valB acc + 4294967296 ^ i * (a + 4294967296 * L - (b + 4294967296 * M) - c) = valB (acc ++ [(e : Int)]) + 4294967296 ^ (i + 1) * (L - M - c') := by
   rw [val_append, ha, Nat.pow_succ, Nat.mul_assoc, Nat.add_assoc, ← Nat.mul_add]
   simp only [valB, Nat.mul_zero, Nat.add_zero, Int.toNat_natCast]
   congr 2
   omega
  rw [hv]
  refine Ev.step (fun k => ?_) ih
  by_cases hi2 : i < m.length
  ·have hrb := hrb hi2
   rw [b_minus.l0, if_pos (by omega), if_pos (by omega), if_pos (by omega), if_pos (by omega), if_pos (by omega), hra, hrb, u64_in a (by omega), u64_in b (by omega), show ((c : Int) + (b : Int)) = ((c + b : Nat) : Int) by push_cast; rfl, u64_in (c + b) (by omega), show ((c + b : Nat) : Int) = ((c : Int) + (b : Int)) by push_cast; rfl, hwe, hwc, wrapB _ (by omega) (by omega)]
   rfl
  ·have hb0 := hb0 (by omega)
   subst hb0
   rw [show ((c : Int) + ((0 : Nat) : Int)) = (c : Int) by omega] at hwe hwc
   rw [b_minus.l0, if_pos (by omega), if_pos (by omega), if_pos (by omega), if_neg (by omega), if_pos (by omega), hra, u64_in a (by omega), hwe, hwc, wrapB _ (by omega) (by omega)]
   rfl
theorem minus_ev (x y : Nat) (h : y ≤ x) (hl : (toB x).length ≤ 1048576) : Ev (fun k => b_minus.f k (toB x) (toB y)) (toB (x - y)) := by
 have hy := len_mono h
 have g := minus_loop (toB x) (toB y) (parts_toB x) (parts_toB y) hl (by omega) (toB x).length 0 [] 0 (by omega) rfl (fun y hy => by cases hy) (by omega) (by rw [List.drop_zero, List.drop_zero, val_toB, val_toB]; omega)
 rw [List.drop_zero, List.drop_zero, val_toB, val_toB, Nat.pow_zero, Nat.one_mul] at g
 have e : valB [] + (x - y - 0) = x - y := by simp [valB]
 rw [e] at g
 refine Ev.congr (fun k => ?_) g
 unfold b_minus.f
 rw [if_pos (by omega), if_pos (by omega)]
 rfl
theorem bits_or (a b : Nat) (ha : a < 18446744073709551616) (hb : b < 18446744073709551616) : Go.bits .or .u64 (a : Int) (b : Int) = ((a ||| b : Nat) : Int) := by
 have hlt : a ||| b < 2 ^ 64 := Nat.or_lt_two_pow ha hb
 unfold Go.bits
 rw [show IntKind.u64.bits = 64 from rfl]
 simp only [BitVec.toNat_or]
 have e2 : (BitVec.ofInt 64 (a : Int)).toNat = a := by rw [BitVec.ofInt_natCast, BitVec.toNat_ofNat, Nat.mod_eq_of_lt ha]
 have e3 : (BitVec.ofInt 64 (b : Int)).toNat = b := by rw [BitVec.ofInt_natCast, BitVec.toNat_ofNat, Nat.mod_eq_of_lt hb]
 rw [e2, e3]
 exact u64_in _ hlt
theorem bits_and (a b : Nat) (ha : a < 18446744073709551616) (hb : b < 18446744073709551616) : Go.bits .and .u64 (a : Int) (b : Int) = ((a &&& b : Nat) : Int) := by
 have hlt : a &&& b < 2 ^ 64 := Nat.and_lt_two_pow _ hb
 unfold Go.bits
 rw [show IntKind.u64.bits = 64 from rfl]
 simp only [BitVec.toNat_and]
 have e2 : (BitVec.ofInt 64 (a : Int)).toNat = a := by rw [BitVec.ofInt_natCast, BitVec.toNat_ofNat, Nat.mod_eq_of_lt ha]
 have e3 : (BitVec.ofInt 64 (b : Int)).toNat = b := by rw [BitVec.ofInt_natCast, BitVec.toNat_ofNat, Nat.mod_eq_of_lt hb]
 rw [e2, e3]
 exact u64_in _ hlt
theorem shl_u64 (x n : Nat) (h : n ≤ 64) : shl .u64 (x : Int) (n : Int) = ((x * 2 ^ n % 2 ^ 64 : Nat) : Int) := by
 unfold shl
 rw [Int.toNat_natCast, show IntKind.u64.bits = 64 from rfl, Nat.min_eq_left h]
 have e : ((x : Int) * (2 : Int) ^ n) = ((x * 2 ^ n : Nat) : Int) := by push_cast; rfl
 rw [e]
 generalize x * 2 ^ n = z
 unfold IntKind.wrap
 simp [IntKind.bits, IntKind.signed]
theorem shr_u64 (x n : Nat) (h : n ≤ 64) : shr .u64 (x : Int) (n : Int) = ((x / 2 ^ n : Nat) : Int) := by
 unfold shr
 rw [Int.toNat_natCast, show IntKind.u64.bits = 64 from rfl, Nat.min_eq_left h]
 push_cast
 rfl
theorem or_bit (t i : Nat) : (2 ^ (i + 1) * t ||| 2 ^ i) = 2 ^ (i + 1) * t + 2 ^ i := by
 rw [Nat.two_pow_add_eq_or_of_lt (by rw [Nat.pow_succ]; have := Nat.two_pow_pos i; omega)]
theorem toB_pos_len (r : Nat) : decide (((toB r).length : Int) > 0) = decide (r ≠ 0) := by
 by_cases h : r = 0
 ·subst h; rw [toB_zero]; rfl
 ·rw [toB_pos h, List.length_cons]
  rw [decide_eq_true (by omega), decide_eq_true h]
theorem by_loop (b : Nat) (hb : b ≠ 0) (hlb : (toB b).length ≤ 500000) : ∀ (i r t : Nat), i ≤ 64 → r < b * 2 ^ i → (toB r).length ≤ 1000000 → 2 ^ i * t < 2 ^ 64 →
  Ev (fun k => b_by.l0 k (toB r) (toB b) ((2 ^ i * t : Nat) : Int) ((i : Int) - 1)) (((2 ^ i * t + r / b : Nat) : Int), decide (r % b ≠ 0))
 | 0, r, t, _, hr, _, _ => by
  rw [Nat.pow_zero, Nat.mul_one] at hr
  refine Ev.step (f := fun _ => some (((2 ^ 0 * t + r / b : Nat) : Int), decide (r % b ≠ 0))) (fun k => ?_) (Ev.now _)
  rw [b_by.l0, if_neg (by omega), toB_pos_len, Nat.div_eq_of_lt hr, Nat.mod_eq_of_lt hr, Nat.add_zero]
 | i + 1, r, t, hi, hr, hlr, ht => by
  obtain ⟨lr, hlr1, hlr2, hlr3⟩ := len_ev r (by omega)
  obtain ⟨lb, hlb1, hlb2, hlb3⟩ := len_ev b (by omega)
  obtain ⟨g1, g2, g3⟩ := hlb2.2 hb
  have hk : ((i + 1 : Nat) : Int) - 1 = (i : Int) := by omega
  have hp2 : 2 ^ (i + 1) * t = 2 ^ i * (2 * t) := by rw [Nat.pow_succ, Nat.mul_assoc]
  have hpow : b * 2 ^ (i + 1) = b * 2 ^ i + b * 2 ^ i := by rw [Nat.pow_succ, ← Nat.mul_assoc, Nat.mul_two]
  by_cases hskip : lr < lb + i
  ·have hlt : r < b * 2 ^ i := by
    have h1 := lenIs_lt hlr2
    have h2 : 2 ^ lr ≤ 2 ^ (lb - 1 + i) := Nat.pow_le_pow_right (by decide) (by omega)
    rw [Nat.pow_add] at h2
    have h3 : 2 ^ (lb - 1) * 2 ^ i ≤ b * 2 ^ i := Nat.mul_le_mul_right _ g2
    omega
   have ih := by_loop b hb hlb i r (2 * t) (by omega) hlt hlr (by rw [← hp2]; exact ht)
   rw [← hp2] at ih
   refine Ev.step (fun k => ?_) ih
   rw [hk, b_by.l0, if_pos (by omega), hlr1, Option.bind_some, hlb1, Option.bind_some, wrapB _ (by omega) (by omega), if_pos (by omega), wrapB _ (by omega) (by omega)]
  ·have hup := up_ev b i (.inl hb) (by omega)
   have hlu : (toB (b * 2 ^ i)).length ≤ 1000003 := by
    have h1 : b < 4294967296 ^ (toB b).length := by
     have := val_lt (parts_toB b)
     rwa [val_toB] at this
    have h2 : (toB (b * 2 ^ i)).length ≤ (toB b).length + 2 := by
     refine len_toB _ _ ?_
     rw [Nat.pow_add, base_pow 2]
     refine Nat.mul_lt_mul_of_lt_of_le h1 (Nat.pow_le_pow_right (by decide) (by omega)) (Nat.two_pow_pos _)
    omega
   obtain ⟨c, hc, c1, c2⟩ := cmp_ev r (b * 2 ^ i) (by omega) (by omega)
   by_cases hge : b * 2 ^ i ≤ r
   ·have hcge : c ≥ 0 := by omega
    have hm := minus_ev r (b * 2 ^ i) hge (by omega)
    have hr' : r - b * 2 ^ i < b * 2 ^ i := by omega
    have hor : 2 ^ (i + 1) * t + 2 ^ i = 2 ^ i * (2 * t + 1) := by rw [hp2, Nat.mul_succ]
    have hsum : 2 ^ i * (2 * t + 1) < 2 ^ 64 := by
     obtain ⟨j, hj⟩ : ∃ j, 64 = (i + 1) + j := ⟨64 - (i + 1), by omega⟩
     have e64 : (2 : Nat) ^ 64 = 2 ^ (i + 1) * 2 ^ j := by rw [← Nat.pow_add, ← hj]
     have ht2 : t < 2 ^ j := by
      rw [e64] at ht
      exact Nat.lt_of_mul_lt_mul_left ht
     have h5 : 2 ^ (i + 1) * (t + 1) ≤ 2 ^ (i + 1) * 2 ^ j := Nat.mul_le_mul_left _ ht2
     rw [Nat.mul_succ, ← e64] at h5
     have h6 : 2 ^ i < 2 ^ (i + 1) := Nat.pow_lt_pow_right (by decide) (by omega)
     rw [← hor]
     omega
    have ih := by_loop b hb hlb i (r - b * 2 ^ i) (2 * t + 1) (by omega) hr' (Nat.le_trans (len_mono (Nat.sub_le ..)) hlr) hsum
    have hdiv : r / b = 2 ^ i + (r - b * 2 ^ i) / b := by
     have : r = (r - b * 2 ^ i) + b * 2 ^ i := by omega
     have h7 := Nat.add_mul_div_left (r - b * 2 ^ i) (2 ^ i) (Nat.pos_of_ne_zero hb)
     rw [← this] at h7
     omega
    have hmod : r % b = (r - b * 2 ^ i) % b := by
     have : r = (r - b * 2 ^ i) + b * 2 ^ i := by omega
     have h7 := Nat.add_mul_mod_self_left (r - b * 2 ^ i) b (2 ^ i)
     rw [← this] at h7
     exact h7
    have hres : 2 ^ (i + 1) * t + r / b = 2 ^ i * (2 * t + 1) + (r - b * 2 ^ i) / b := by rw [hdiv, ← hor]; omega
    rw [hres, hmod]
    have hq : Go.bits .or .u64 ((2 ^ (i + 1) * t : Nat) : Int) (shl .u64 1 (i : Int)) = ((2 ^ i * (2 * t + 1) : Nat) : Int) := by
     have h8 : (2 : Nat) ^ i < 2 ^ 64 := Nat.pow_lt_pow_right (by decide) (by omega)
     have h9 := shl_u64 1 i (by omega)
     rw [Nat.one_mul, Nat.mod_eq_of_lt h8] at h9
     have h10 : shl .u64 1 (i : Int) = ((2 ^ i : Nat) : Int) := h9
     rw [h10, bits_or _ _ ht h8, or_bit, hor]
    have hb1 : Ev (fun k => (b_up.f k (toB b) (i : Int)).bind fun u => (b_cmp.f k (toB r) u).bind fun c => if c ≥ 0 then (b_minus.f k (toB r) u).bind fun m => (if (0 : Int) ≤ (i : Int) then b_by.l0 k m (toB b) ((2 ^ i * (2 * t + 1) : Nat) : Int) ((i : Int) - 1) else none) else b_by.l0 k (toB r) (toB b) ((2 ^ (i + 1) * t : Nat) : Int) ((i : Int) - 1)) _ :=
     Ev.bind hup (Ev.bind hc (Ev.congr (fun k => if_pos hcge) (Ev.bind hm (Ev.congr (fun k => if_pos (by omega)) ih))))
    refine Ev.step (fun k => ?_) hb1
    rw [hk, b_by.l0, if_pos (by omega), hlr1, Option.bind_some, hlb1, Option.bind_some, wrapB _ (by omega) (by omega), if_neg (by omega), wrapB _ (by omega) (by omega), hq]
   ·have hlt : r < b * 2 ^ i := by omega
    have hcl : ¬ c ≥ 0 := by omega
    have ih := by_loop b hb hlb i r (2 * t) (by omega) hlt hlr (by rw [← hp2]; exact ht)
    rw [← hp2] at ih
    have hb1 : Ev (fun k => (b_up.f k (toB b) (i : Int)).bind fun u => (b_cmp.f k (toB r) u).bind fun c => if c ≥ 0 then (b_minus.f k (toB r) u).bind fun m => (if (0 : Int) ≤ (i : Int) then b_by.l0 k m (toB b) (Go.bits .or .u64 ((2 ^ (i + 1) * t : Nat) : Int) (shl .u64 1 (i : Int))) ((i : Int) - 1) else none) else b_by.l0 k (toB r) (toB b) ((2 ^ (i + 1) * t : Nat) : Int) ((i : Int) - 1)) _ :=
     Ev.bind hup (Ev.bind hc (Ev.congr (fun k => if_neg hcl) ih))
    refine Ev.step (fun k => ?_) hb1
    rw [hk, b_by.l0, if_pos (by omega), hlr1, Option.bind_some, hlb1, Option.bind_some, wrapB _ (by omega) (by omega), if_neg (by omega), wrapB _ (by omega) (by omega)]
theorem by_ev (a b : Nat) (hb : b ≠ 0) (hlb : (toB b).length ≤ 500000) (hla : (toB a).length ≤ 1000000) (h : a < b * 2 ^ 64) : Ev (fun k => b_by.f k (toB a) (toB b)) (((a / b : Nat) : Int), decide (a % b ≠ 0)) := by
 have g := by_loop b hb hlb 64 a 0 (Nat.le_refl _) h hla (by rw [Nat.mul_zero]; exact Nat.two_pow_pos _)
 rw [Nat.mul_zero, Nat.zero_add] at g
 refine Ev.congr (fun k => ?_) g
 rfl
end Go.Proofs.YtflcanpajgpghaaDoor.Pure
end
section
namespace Go.Proofs.YtflcanpajgpghaaDoor.Flo
open Go Ieee
def mid (w : Nat) : Nat := units w + units (w + 1)
def kE : Nat := 1075
def K : Nat := 2 ^ kE
def Above (A B w : Nat) : Prop := w = 0 ∨ mid (w - 1) * B < A * K ∨ (mid (w - 1) * B = A * K ∧ w % 2 = 0)
def Under (A B w : Nat) : Prop := A * K < mid w * B ∨ (A * K = mid w * B ∧ w % 2 = 0)
def Nearest (A B w : Nat) : Prop := Above A B w ∧ Under A B w
theorem units_succ (w : Nat) : units w < units (w + 1) := units_mono (Nat.lt_succ_self w)
theorem mid_mono {v w : Nat} (h : v < w) : mid v < mid w := by
 unfold mid
 have h1 := units_mono h
 have h2 : units (v + 1) < units (w + 1) := units_mono (by omega)
 omega
theorem nearest_le {A B A' B' v w : Nat} (hB : 0 < B) (hB' : 0 < B') (h : A * B' ≤ A' * B) (hv : Nearest A B v) (hw : Nearest A' B' w) : v ≤ w := by
 apply Nat.le_of_not_lt
 intro hlt
 have hm : mid w ≤ mid (v - 1) := by
  rcases Nat.lt_or_eq_of_le (show w ≤ v - 1 by omega) with h1 | h1
  ·exact Nat.le_of_lt (mid_mono h1)
  ·rw [h1]; exact Nat.le_refl _
 have ha : mid (v - 1) * B ≤ A * K ∧ (mid (v - 1) * B = A * K → v % 2 = 0) := by
  rcases hv.1 with h1 | h1 | h1
  ·omega
  ·exact ⟨Nat.le_of_lt h1, fun e => by omega⟩
  ·exact ⟨Nat.le_of_eq h1.1, fun _ => h1.2⟩
 have hu : A' * K ≤ mid w * B' ∧ (A' * K = mid w * B' → w % 2 = 0) := by
  rcases hw.2 with h1 | h1
  ·exact ⟨Nat.le_of_lt h1, fun e => by omega⟩
  ·exact ⟨Nat.le_of_eq h1.1, fun _ => h1.2⟩
 have c1 : mid (v - 1) * B * B' ≤ A * K * B' := Nat.mul_le_mul_right _ ha.1
 have c2 : A * K * B' ≤ A' * K * B := by
  have := Nat.mul_le_mul_right K h
  rw [Nat.mul_right_comm A K B', Nat.mul_right_comm A' K B]
  exact this
 have c3 : A' * K * B ≤ mid w * B' * B := Nat.mul_le_mul_right _ hu.1
 have c4 : mid w * B' * B ≤ mid (v - 1) * B' * B := Nat.mul_le_mul_right _ (Nat.mul_le_mul_right _ hm)
 have c5 : mid (v - 1) * B' * B = mid (v - 1) * B * B' := Nat.mul_right_comm _ _ _
 have e1 : mid (v - 1) * B * B' = A * K * B' := by omega
 have e2 : A' * K * B = mid w * B' * B := by omega
 have e3 : mid w * B' * B = mid (v - 1) * B' * B := by omega
 have f1 : mid (v - 1) * B = A * K := Nat.eq_of_mul_eq_mul_right hB' e1
 have f2 : A' * K = mid w * B' := Nat.eq_of_mul_eq_mul_right hB e2
 have f3 : mid w = mid (v - 1) := Nat.eq_of_mul_eq_mul_right hB' (Nat.eq_of_mul_eq_mul_right hB e3)
 have g1 := ha.2 f1
 have g2 := hu.2 f2
 have : w = v - 1 := by
  rcases Nat.lt_trichotomy w (v - 1) with k | k | k
  ·have := mid_mono k; omega
  ·exact k
  ·have := mid_mono k; omega
 omega
theorem nearest_one {A B A' B' v w : Nat} (hB : 0 < B) (hB' : 0 < B') (h : A * B' = A' * B) (hv : Nearest A B v) (hw : Nearest A' B' w) : v = w :=
 Nat.le_antisymm (nearest_le hB hB' (Nat.le_of_eq h) hv hw) (nearest_le hB' hB (Nat.le_of_eq h.symm) hw hv)
theorem pow_step (c j : Nat) : (c + 0) * 2 ^ (j + 1) = (c * 2) * 2 ^ j := by rw [Nat.add_zero, Nat.pow_succ, Nat.mul_comm (2 ^ j) 2, Nat.mul_assoc]
theorem units_low {r : Nat} (h : r < 4503599627370496) : units r = r := by unfold units; rw [if_pos h]
theorem units_high {r : Nat} (h : ¬ r < 4503599627370496) : units r = (4503599627370496 + r % 4503599627370496) * 2 ^ (r / 4503599627370496 - 1) := by unfold units; rw [if_neg h]
theorem units_of (j q : Nat) (h1 : q ≤ 9007199254740992) (h2 : j = 0 ∨ 4503599627370496 ≤ q) : units (j * 4503599627370496 + q) = q * 2 ^ j := by
 by_cases hq : q < 4503599627370496
 ·obtain rfl : j = 0 := by omega
  rw [units_low (by omega)]
  omega
 ·rw [units_high (by omega)]
  by_cases he : q = 9007199254740992
  ·have e1 : (j * 4503599627370496 + q) % 4503599627370496 = 0 := by omega
   have e2 : (j * 4503599627370496 + q) / 4503599627370496 - 1 = j + 1 := by omega
   have e3 : 4503599627370496 * 2 = q := by omega
   rw [e1, e2, pow_step, e3]
  ·have e1 : 4503599627370496 + (j * 4503599627370496 + q) % 4503599627370496 = q := by omega
   have e2 : (j * 4503599627370496 + q) / 4503599627370496 - 1 = j := by omega
   rw [e1, e2]
theorem nearest_of {A B j q : Nat} (hB : 0 < B) (h1 : q < 9007199254740992) (h2 : j = 0 ∨ 4503599627370496 ≤ q) (lo : 2 * q * (2 ^ j * B) ≤ A * K) (hi : A * K < 2 * (q + 1) * (2 ^ j * B)) :
  Nearest A B (j * 4503599627370496 + if (2 * q + 1) * (2 ^ j * B) < A * K ∨ ((2 * q + 1) * (2 ^ j * B) = A * K ∧ q % 2 = 1) then q + 1 else q) := by
 have u0 := units_of j q (by omega) h2
 have u1 := units_of j (q + 1) (by omega) (by omega)
 have hmid : mid (j * 4503599627370496 + q) * B = (2 * q + 1) * (2 ^ j * B) := by
  unfold mid
  rw [Nat.add_assoc, u0, u1, ← Nat.add_mul, ← Nat.mul_assoc]
  congr 2
  omega
 have hK : ∃ a, a = A * K := ⟨_, rfl⟩
 obtain ⟨a, ha⟩ := hK
 obtain ⟨c, hc⟩ : ∃ c, c = 2 ^ j * B := ⟨_, rfl⟩
 rw [← ha, ← hc] at lo hi
 rw [← hc] at hmid
 rw [← ha, ← hc]
 have q0 : units (j * 4503599627370496 + q) * B = q * c := by rw [u0, hc, Nat.mul_assoc]
 have q1 : units (j * 4503599627370496 + (q + 1)) * B = (q + 1) * c := by rw [u1, hc, Nat.mul_assoc]
 by_cases hup : (2 * q + 1) * c < a ∨ ((2 * q + 1) * c = a ∧ q % 2 = 1)
 ·rw [if_pos hup]
  have hw : j * 4503599627370496 + (q + 1) - 1 = j * 4503599627370496 + q := by omega
  refine ⟨.inr ?_, .inl ?_⟩
  ·rw [hw, hmid, ← ha]
   rcases hup with g | g
   ·exact .inl g
   ·exact .inr ⟨g.1, by omega⟩
  ·rw [← ha]
   refine Nat.lt_of_lt_of_le hi ?_
   unfold mid
   have h3 := units_succ (j * 4503599627370496 + (q + 1))
   have h4 : units (j * 4503599627370496 + (q + 1)) * B ≤ units (j * 4503599627370496 + (q + 1) + 1) * B := Nat.mul_le_mul_right _ (Nat.le_of_lt h3)
   rw [Nat.add_mul, q1]
   rw [q1] at h4
   have h5 : 2 * (q + 1) * c = (q + 1) * c + (q + 1) * c := by rw [Nat.mul_assoc, Nat.two_mul]
   omega
 ·rw [if_neg hup]
  have g1 : a ≤ (2 * q + 1) * c := Nat.le_of_not_lt fun g => hup (.inl g)
  refine ⟨?_, ?_⟩
  ·by_cases h0 : j * 4503599627370496 + q = 0
   ·exact .inl h0
   ·refine .inr (.inl ?_)
    rw [← ha]
    refine Nat.lt_of_lt_of_le ?_ lo
    unfold mid
    have h3 := units_succ (j * 4503599627370496 + q - 1)
    rw [show j * 4503599627370496 + q - 1 + 1 = j * 4503599627370496 + q by omega] at h3 ⊢
    have h4 : units (j * 4503599627370496 + q - 1) * B < units (j * 4503599627370496 + q) * B := Nat.mul_lt_mul_of_pos_right h3 hB
    rw [Nat.add_mul, q0]
    rw [q0] at h4
    have h5 : 2 * q * c = q * c + q * c := by rw [Nat.mul_assoc, Nat.two_mul]
    omega
  ·unfold Under
   rw [← ha, hmid]
   rcases Nat.lt_or_eq_of_le g1 with g | g
   ·exact .inl g
   ·refine .inr ⟨g, ?_⟩
    have : ¬ q % 2 = 1 := fun k => hup (.inr ⟨g.symm, k⟩)
    omega
end Go.Proofs.YtflcanpajgpghaaDoor.Flo
end
section
namespace Go.Proofs.YtflcanpajgpghaaDoor.Flo
open Go Ieee
theorem K_exp : ∃ E : Nat, E = 1075 ∧ K = 2 ^ E := ⟨kE, rfl, rfl⟩
theorem K_pos : 0 < K := by
 obtain ⟨E, _, h⟩ := K_exp
 rw [h]
 exact Nat.two_pow_pos E
theorem cut_nearest {A B P M Q R n j : Nat} (hB : 0 < B) (hP : 0 < P) (hM : 0 < M) (hn : 1 ≤ n) (hK : K * (M * 2 ^ n) = 2 ^ (j + 1) * P)
  (hA : A * P = Q * (B * M) + R) (hR : R < B * M) (h1 : Q / 2 ^ n < 9007199254740992) (h2 : j = 0 ∨ 4503599627370496 ≤ Q / 2 ^ n) :
  Nearest A B (j * 4503599627370496 + if 2 ^ (n - 1) < Q % 2 ^ n ∨ (Q % 2 ^ n = 2 ^ (n - 1) ∧ (0 < R ∨ Q / 2 ^ n % 2 = 1)) then Q / 2 ^ n + 1 else Q / 2 ^ n) := by
 obtain ⟨m, rfl⟩ : ∃ m, n = m + 1 := ⟨n - 1, by omega⟩
 rw [Nat.add_sub_cancel]
 have hT : 0 < 2 ^ m := Nat.two_pow_pos m
 have hS : (2 : Nat) ^ (m + 1) = 2 * 2 ^ m := by rw [Nat.pow_succ, Nat.mul_comm]
 rw [hS] at hK h1 h2 ⊢
 obtain ⟨T, hTT⟩ : ∃ T, T = 2 ^ m := ⟨_, rfl⟩
 rw [← hTT] at hK h1 h2 hT ⊢
 obtain ⟨C, hC⟩ : ∃ C, C = B * M := ⟨_, rfl⟩
 have hC0 : 0 < C := by rw [hC]; exact Nat.mul_pos hB hM
 rw [← hC] at hA hR
 have hQ := Nat.div_add_mod Q (2 * T)
 have hr : Q % (2 * T) < 2 * T := Nat.mod_lt _ (by omega)
 obtain ⟨q, hq⟩ : ∃ q, q = Q / (2 * T) := ⟨_, rfl⟩
 obtain ⟨r, hrr⟩ : ∃ r, r = Q % (2 * T) := ⟨_, rfl⟩
 rw [← hq] at h1 h2
 rw [← hq, ← hrr] at hQ ⊢
 rw [← hrr] at hr
 have key : ∀ c, c * (2 ^ j * B) * P = c * T * C * K := by
  intro c
  have e1 : 2 * (c * (2 ^ j * B) * P) = 2 * (c * T * C * K) := by
   have g1 : 2 * (c * (2 ^ j * B) * P) = c * B * (2 ^ (j + 1) * P) := by
    rw [Nat.pow_succ]
    simp only [Nat.mul_assoc, Nat.mul_comm, Nat.mul_left_comm]
   rw [g1, ← hK, hC]
   simp only [Nat.mul_assoc, Nat.mul_comm, Nat.mul_left_comm]
  omega
 have keyA : A * K * P = (Q * C + R) * K := by rw [← hA]; simp only [Nat.mul_assoc, Nat.mul_comm, Nat.mul_left_comm]
 have hlt : ∀ c, c * (2 ^ j * B) < A * K ↔ c * T * C < Q * C + R := by
  intro c
  rw [← Nat.mul_lt_mul_right hP, key, keyA, Nat.mul_lt_mul_right K_pos]
 have hgt : ∀ c, A * K < c * (2 ^ j * B) ↔ Q * C + R < c * T * C := by
  intro c
  rw [← Nat.mul_lt_mul_right hP, key, keyA, Nat.mul_lt_mul_right K_pos]
 have heq : ∀ c, c * (2 ^ j * B) = A * K ↔ c * T * C = Q * C + R := by
  intro c
  have a := hlt c
  have b := hgt c
  omega
 have hle : ∀ c, c * (2 ^ j * B) ≤ A * K ↔ c * T * C ≤ Q * C + R := by
  intro c
  have b := hgt c
  omega
 have cQ : ∀ x, x ≤ Q → x * C ≤ Q * C + R := fun x h => Nat.le_trans (Nat.mul_le_mul_right C h) (Nat.le_add_right _ _)
 have cG : ∀ x, Q < x → Q * C + R < x * C := fun x h => by
  have := Nat.mul_le_mul_right C (show Q + 1 ≤ x from h)
  rw [Nat.add_mul, Nat.one_mul] at this
  omega
 have e2 : 2 * q * T + r = Q := by rw [Nat.mul_assoc, Nat.mul_comm q T, ← Nat.mul_assoc]; exact hQ
 have e3 : 2 * (q + 1) * T = 2 * q * T + 2 * T := by rw [Nat.mul_add, Nat.add_mul]
 have e4 : (2 * q + 1) * T = 2 * q * T + T := by rw [Nat.add_mul, Nat.one_mul]
 have g2 : 2 * q * T ≤ Q := by clear hlt hgt heq hle key keyA hA hK; omega
 have g3 : Q < 2 * (q + 1) * T := by clear hlt hgt heq hle key keyA hA hK; omega
 have hmain := nearest_of (A := A) (B := B) (j := j) (q := q) hB h1 h2 ((hle _).2 (cQ _ g2)) ((hgt _).2 (cG _ g3))
 have hcond : ((2 * q + 1) * (2 ^ j * B) < A * K ∨ ((2 * q + 1) * (2 ^ j * B) = A * K ∧ q % 2 = 1)) ↔ (T < r ∨ (r = T ∧ (0 < R ∨ q % 2 = 1))) := by
  rw [hlt, heq]
  rcases Nat.lt_trichotomy T r with h | h | h
  ·have := Nat.mul_le_mul_right C (show (2 * q + 1) * T + 1 ≤ Q by omega)
   rw [Nat.add_mul _ 1, Nat.one_mul] at this
   exact ⟨fun _ => .inl h, fun _ => .inl (by omega)⟩
  ·have : (2 * q + 1) * T = Q := by omega
   rw [this]
   omega
  ·have := cG ((2 * q + 1) * T) (by omega)
   omega
 simp only [hcond] at hmain
 exact hmain
theorem zero_nearest {A B : Nat} (h : A * K < B) : Nearest A B 0 := by
 refine ⟨.inl rfl, .inl ?_⟩
 have : mid 0 = 1 := by rfl
 rw [this, Nat.one_mul]
 exact h
end Go.Proofs.YtflcanpajgpghaaDoor.Flo
end
section
namespace Go.Proofs.YtflcanpajgpghaaDoor.Flo
open Go Ieee
def INF : Nat := 9218868437227405312
def upN (D : Nat) (e : Int) : Nat := D * 10 ^ e.toNat
def loN (e : Int) : Nat := 10 ^ (-e).toNat
def ReadAs (D : Nat) (e : Int) (w : Nat) : Prop :=
 if D = 0 ∨ e < -1000 then w = 0 else if 400 < e then w = INF else ∃ v, Nearest (upN D e) (loN e) v ∧ w = min v INF
theorem loN_pos (e : Int) : 0 < loN e := Nat.pow_pos (by decide)
theorem readAs_one {D : Nat} {e : Int} {v w : Nat} (hv : ReadAs D e v) (hw : ReadAs D e w) : v = w := by
 unfold ReadAs at hv hw
 by_cases h1 : D = 0 ∨ e < -1000
 ·rw [if_pos h1] at hv hw; rw [hv, hw]
 ·rw [if_neg h1] at hv hw
  by_cases h2 : 400 < e
  ·rw [if_pos h2] at hv hw; rw [hv, hw]
  ·rw [if_neg h2] at hv hw
   obtain ⟨a, ha, rfl⟩ := hv
   obtain ⟨b, hb, rfl⟩ := hw
   rw [nearest_one (loN_pos e) (loN_pos e) rfl ha hb]
theorem readAs_noughts {D n : Nat} {e : Int} {v w : Nat} (he : -1000 ≤ e - n) (he2 : e ≤ 0) (hv : ReadAs D e v) (hw : ReadAs (D * 10 ^ n) (e - n) w) : v = w := by
 unfold ReadAs at hv hw
 have hp : 0 < 10 ^ n := Nat.pow_pos (by decide)
 by_cases h0 : D = 0
 ·rw [if_pos (.inl h0)] at hv; rw [if_pos (.inl (by rw [h0, Nat.zero_mul]))] at hw; rw [hv, hw]
 ·have h0' : D * 10 ^ n ≠ 0 := Nat.mul_ne_zero h0 (by omega)
  rw [if_neg (by omega), if_neg (by omega)] at hv hw
  obtain ⟨a, ha, rfl⟩ := hv
  obtain ⟨b, hb, rfl⟩ := hw
  have e1 : (-(e - (n : Int))).toNat = (-e).toNat + n := by omega
  have e2 : e.toNat = 0 := by omega
  have e3 : (e - (n : Int)).toNat = 0 := by omega
  rw [nearest_one (loN_pos e) (loN_pos (e - n)) ?_ ha hb]
  unfold upN loN
  rw [e1, e2, e3, Nat.pow_zero, Nat.mul_one, Nat.mul_one, Nat.pow_add, Nat.mul_assoc, Nat.mul_comm (10 ^ n)]
end Go.Proofs.YtflcanpajgpghaaDoor.Flo
end
