-- Written by a program of this claim's session, out of the translation.
import Derived.Test.YtjcaieecafggiaaPr0
import Derived.Test.YtjcaieecafggiaaPr3
import Derived.Test.YtjcaieecafggiaaPr4
import Derived.Test.YtjcaieecafggiaaSame
import Derived.Test.YtjcaieecafggiaaMakes
namespace Go.Proofs.Ytjcaieecafggiaa.Pr
open Go.RowKit Go.Proofs.YtjcaieecafggiaaW.PrintWords Go.Proofs.YtjcaieecafggiaaW.PrintLast Go.Proofs.YtjcaieecafggiaaW.PrintMore
attribute [local go_sem] max2_int min2_int max_two min_two max_three min_three max_four min_four   -- for this text's walks alone
set_option linter.unusedVariables false
set_option linter.unusedSimpArgs false

/-! ### minstrellaw07_CodeMakes: function 5 -/
mutual
def minstrellaw07_CodeMakes.j0 : Nat → Int → ByteArray → List (S26) → Bool → Option (Bool)
  | 0, _, _, _, _ => none
  | k + 1, x0, x1, x2, x20 => if x20 = true then ((minstrellaw07_lives.f k).bind fun t168 => (some t168)) else (minstrellaw07_CodeMakes.l0 k x0 x1 x2 (([] : List (S26))) 0)
def minstrellaw07_CodeMakes.l0 : Nat → Int → ByteArray → List (S26) → List (S26) → Int → Option (Bool)
  | 0, _, _, _, _, _ => none
  | k + 1, x0, x1, x2, x7, x8 => if x8 < (x2.length : Int) then (if 0 ≤ x8 then ((minstrelref07_Own.f k ((rd_T26 x2 x8).f0) ((rd_T26 x2 x8).f1) ((rd_T26 x2 x8).f2) ((rd_T26 x2 x8).f3)).bind fun bt173 => (if x7.length < 2513169434916 then (minstrellaw07_CodeMakes.l0 k x0 x1 x2 (x7 ++ [(⟨bt173.1, bt173.2.1, bt173.2.2.1, bt173.2.2.2⟩ : S26)]) (wrap64 (x8 + 1))) else (none))) else (none)) else ((code_List.f k x7).bind fun bt182 => ((minstrelref07_List.f x2).bind fun bt189 => ((minstrelref07_Same.f k bt182.1 bt182.2.1 bt182.2.2.1 bt182.2.2.2 bt189.1 bt189.2.1 bt189.2.2.1 bt189.2.2.2).bind fun t195 => (if t195 = true then ((code_Number.f x0).bind fun bt196 => ((minstrelref07_Number.f x0).bind fun bt202 => ((minstrelref07_Same.f k bt196.1 bt196.2.1 bt196.2.2.1 bt196.2.2.2 bt202.1 bt202.2.1 bt202.2.2.1 bt202.2.2.2).bind fun t208 => (if t208 = true then ((code_Text.f x1).bind fun bt209 => ((minstrelref07_Text.f x1).bind fun bt215 => ((minstrelref07_Same.f k bt209.1 bt209.2.1 bt209.2.2.1 bt209.2.2.2 bt215.1 bt215.2.1 bt215.2.2.1 bt215.2.2.2).bind fun t221 => (if t221 = true then ((minstrellaw07_lives.f k).bind fun t222 => (some t222)) else (some false))))) else (some false))))) else (some false)))))
end
def minstrellaw07_CodeMakes.f (k : Nat) (a0 : Int) (a1 : ByteArray) (l2 : List (S26)) : Option (Bool) := if (l2.length : Int) > 50 then (minstrellaw07_CodeMakes.j0 k a0 a1 l2 true) else ((minstrellaw07_small.f k 2 0 (⟨#[]⟩ : ByteArray) l2).bind fun t167 => (minstrellaw07_CodeMakes.j0 k a0 a1 l2 (!t167)))
theorem minstrellaw07_CodeMakes.mono_l : ∀ k, (∀ y0 y1 y2 y3, LeO (minstrellaw07_CodeMakes.j0 k y0 y1 y2 y3) (minstrellaw07_CodeMakes.j0 (k + 1) y0 y1 y2 y3)) ∧ (∀ y0 y1 y2 y3 y4, LeO (minstrellaw07_CodeMakes.l0 k y0 y1 y2 y3 y4) (minstrellaw07_CodeMakes.l0 (k + 1) y0 y1 y2 y3 y4))
  | 0 => ⟨fun _ _ _ _ r h => by simp [minstrellaw07_CodeMakes.j0] at h, fun _ _ _ _ _ r h => by simp [minstrellaw07_CodeMakes.l0] at h⟩
  | k + 1 => by
    obtain ⟨ih0, ih1⟩ := minstrellaw07_CodeMakes.mono_l k
    refine ⟨?_, ?_⟩
    · intro y0 y1 y2 y3
      unfold minstrellaw07_CodeMakes.j0
      repeat' first
      | (with_reducible exact ih0 _ _ _ _)
      | (with_reducible exact ih1 _ _ _ _ _)
      | (with_reducible exact code_List.mono _ _)
      | (with_reducible exact minstrellaw07_lives.mono _)
      | (with_reducible exact minstrellaw07_small.mono _ _ _ _ _)
      | (with_reducible exact minstrelref07_Own.mono _ _ _ _ _)
      | (with_reducible exact minstrelref07_Same.mono _ _ _ _ _ _ _ _ _)
      | (with_reducible exact LeO.refl _)
      | (with_reducible exact LeO.none _)
      | (with_reducible refine LeO.ite ?_ ?_)
      | (with_reducible refine LeO.bind ?_ (fun _ => ?_))
      | exact ih0 _ _ _ _
      | exact ih1 _ _ _ _ _
      | exact code_List.mono _ _
      | exact minstrellaw07_lives.mono _
      | exact minstrellaw07_small.mono _ _ _ _ _
      | exact minstrelref07_Own.mono _ _ _ _ _
      | exact minstrelref07_Same.mono _ _ _ _ _ _ _ _ _
      | exact LeO.none _
      | refine LeO.ite ?_ ?_
      | refine LeO.bind ?_ (fun _ => ?_)
    · intro y0 y1 y2 y3 y4
      unfold minstrellaw07_CodeMakes.l0
      repeat' first
      | (with_reducible exact ih0 _ _ _ _)
      | (with_reducible exact ih1 _ _ _ _ _)
      | (with_reducible exact code_List.mono _ _)
      | (with_reducible exact minstrellaw07_lives.mono _)
      | (with_reducible exact minstrellaw07_small.mono _ _ _ _ _)
      | (with_reducible exact minstrelref07_Own.mono _ _ _ _ _)
      | (with_reducible exact minstrelref07_Same.mono _ _ _ _ _ _ _ _ _)
      | (with_reducible exact LeO.refl _)
      | (with_reducible exact LeO.none _)
      | (with_reducible refine LeO.ite ?_ ?_)
      | (with_reducible refine LeO.bind ?_ (fun _ => ?_))
      | exact ih0 _ _ _ _
      | exact ih1 _ _ _ _ _
      | exact code_List.mono _ _
      | exact minstrellaw07_lives.mono _
      | exact minstrellaw07_small.mono _ _ _ _ _
      | exact minstrelref07_Own.mono _ _ _ _ _
      | exact minstrelref07_Same.mono _ _ _ _ _ _ _ _ _
      | exact LeO.none _
      | refine LeO.ite ?_ ?_
      | refine LeO.bind ?_ (fun _ => ?_)
theorem minstrellaw07_CodeMakes.mono : ∀ a0 a1 a2 k, LeO (minstrellaw07_CodeMakes.f k a0 a1 a2) (minstrellaw07_CodeMakes.f (k + 1) a0 a1 a2) := by
  intro a0 a1 a2 k
  obtain ⟨ih0, ih1⟩ := minstrellaw07_CodeMakes.mono_l k
  unfold minstrellaw07_CodeMakes.f
  repeat' first
      | (with_reducible exact ih0 _ _ _ _)
      | (with_reducible exact ih1 _ _ _ _ _)
      | (with_reducible exact code_List.mono _ _)
      | (with_reducible exact minstrellaw07_lives.mono _)
      | (with_reducible exact minstrellaw07_small.mono _ _ _ _ _)
      | (with_reducible exact minstrelref07_Own.mono _ _ _ _ _)
      | (with_reducible exact minstrelref07_Same.mono _ _ _ _ _ _ _ _ _)
      | (with_reducible exact LeO.refl _)
      | (with_reducible exact LeO.none _)
      | (with_reducible refine LeO.ite ?_ ?_)
      | (with_reducible refine LeO.bind ?_ (fun _ => ?_))
      | exact ih0 _ _ _ _
      | exact ih1 _ _ _ _ _
      | exact code_List.mono _ _
      | exact minstrellaw07_lives.mono _
      | exact minstrellaw07_small.mono _ _ _ _ _
      | exact minstrelref07_Own.mono _ _ _ _ _
      | exact minstrelref07_Same.mono _ _ _ _ _ _ _ _ _
      | exact LeO.none _
      | refine LeO.ite ?_ ?_
      | refine LeO.bind ?_ (fun _ => ?_)
def minstrellaw07_CodeMakes.T17 : Bool × List (List Nat × List Nat) := (true, [([], []), ([], []), ([1], [1]), ([0, 2, 2], [0, 2]), ([3, 3], [3]), ([4], [4]), ([5, 4, 4], [4, 5]), ([4], [4]), ([7, 6, 4], [4, 7]), ([6, 8, 8, 4], [4, 6, 8]), ([4, 9], [4, 9]), ([10, 9], [10]), ([11], [11]), ([12, 11, 11], [11, 12]), ([11], [11]), ([14, 13, 11], [11, 14]), ([13, 15, 15, 11], [11, 13, 15]), ([11, 16], [11, 16]), ([17, 16], [17]), ([18, 18], [18]), ([18, 19], [18, 19]), ([20, 19, 0, 1, 2, 3, 4, 5, 6, 7, 8, 9, 10, 11, 12, 13, 14, 15, 16, 17, 18, 19, 20], [20])])
def minstrellaw07_CodeMakes.B17 : List Nat := [0, 0, 2, 7, 15, 31, 63, 31, 255, 511, 1023, 2047, 4095, 8191, 4095, 32767, 65535, 131071, 262143, 524287, 1048575, 2097151]
theorem minstrellaw07_CodeMakes.tab17 : rtab .any (opsOf Try.f5 17) = minstrellaw07_CodeMakes.T17 := by kernel_rfl
theorem minstrellaw07_CodeMakes.bits17 : waitsOk minstrellaw07_CodeMakes.T17.2 minstrellaw07_CodeMakes.B17 = true := by kernel_rfl
set_option maxHeartbeats 8000000 in
set_option maxRecDepth 100000 in
theorem minstrellaw07_CodeMakes.calls (k : Nat) (a0 : Int) (a1 : ByteArray) (A2 : Option Addr) (c2 : Nat) (l2 : List (S26)) (r : Bool) (w : World) (hr2 : Kd.C k26 w A2 l2.length l2) (hc2 : l2.length ≤ c2) (h : minstrellaw07_CodeMakes.f k a0 a1 l2 = some r) :
    Calls Try.prog 5 #[.int .u64 a0, .string a1, .slice A2 l2.length c2] w fun e w' => e = .returned (.bool r) ∧ Below w.heap.size w w' := by
  have hu26 := Try.underlying26
  have HR2 := Aside0.mk hr2
  have HC2 := Aside0.mk hc2
  clear hr2 hc2
  have HB := Aside0.mk (Below.refl w.heap.size w)
  have H : (if (l2.length : Int) > 50 then (minstrellaw07_CodeMakes.j0 k a0 a1 l2 true) else ((minstrellaw07_small.f k 2 0 (⟨#[]⟩ : ByteArray) l2).bind fun t167 => (minstrellaw07_CodeMakes.j0 k a0 a1 l2 (!t167)))) = some r := h
  clear h
  have HC4 := Aside0.mk H
  clear H
  go_enter Try.func5, Try.ntmps5
  go_upto_region 1 with (fail)
  go_cut [20] (fun v20 wc => ∃ (kq : Nat) (x20_3 : Bool), v20 = .bool x20_3 ∧ Aside0 (minstrellaw07_CodeMakes.j0 kq a0 a1 l2 x20_3 = some r) ∧ Aside0 (kq ≤ k) ∧ Aside0 (Below w.heap.size w wc))
  case first =>
    have H := HC4.out
    clear HC4
    by_cases c5 : (l2.length : Int) > 50
    · rw [if_pos c5] at H
      have c5b0 : decide (50 < (l2.length : Int)) = true := decide_eq_true c5
      have c5b1 : decide (50 < l2.length) = true := decide_eq_true (by omega)
      clear c5
      (first | rw [c5b0] | (simp only [i64_w, i32_w]; rw [c5b0]) | rw [c5b1] | (simp only [i64_w, i32_w]; rw [c5b1]) | skip)
      have H' := Aside0.mk H
      clear H
      go_wp2
      go_meet
      case rel => exact ⟨_, (true), (by first | rfl | (simp; done) | (simp [*]; done)), H', ⟨by first | omega | exact Nat.le_refl _⟩, ⟨by repeat (first | (with_reducible first | exact HB.out | apply below_alloc | apply pw_below_drewN | apply below_drew1) | exact HB.out)⟩⟩
    · rw [if_neg c5] at H
      have c5b0 : decide (50 < (l2.length : Int)) = false := decide_eq_false c5
      have c5b1 : decide (50 < l2.length) = false := decide_eq_false (by omega)
      clear c5
      (first | rw [c5b0] | (simp only [i64_w, i32_w]; rw [c5b0]) | rw [c5b1] | (simp only [i64_w, i32_w]; rw [c5b1]) | skip)
      replace H := Option.bind_eq_some_iff.mp H
      obtain ⟨t167, A60, H⟩ := H
      replace H : (minstrellaw07_CodeMakes.j0 k a0 a1 l2 (!t167)) = some r := H
      have A6 := Aside0.mk A60
      clear A60
      have H' := Aside0.mk H
      clear H
      go_wp2_with (first | (go_at_call 13; (with_reducible refine (minstrellaw07_small.calls k 2 0 (⟨#[]⟩ : ByteArray) _ _ l2 t167 _ ?side1 ?side2 A6.out).mono ?_); (case side1 => repeat (first | exact (Kd.C_below HR2.out HB.out) | (with_reducible refine Kd.C_alloc ?_ _) | (with_reducible refine Kd.C_drewN ?_ _) | (with_reducible refine Kd.C_drew ?_))); (case side2 => exact HC2.out); rintro e w7 ⟨rfl, hb⟩; have n0_ := Aside0.mk (below_step (by repeat (first | (with_reducible first | exact HB.out | apply below_alloc | apply pw_below_drewN | apply below_drew1) | exact HB.out)) hb); clear HB; have HB := n0_; clear n0_; (try clear hb); (try clear hb2); (try clear hk); (try clear hi)))
      go_meet
      case rel => exact ⟨_, (!t167), (by first | rfl | (simp; done) | (simp [*]; done)), H', ⟨by first | omega | exact Nat.le_refl _⟩, ⟨by repeat (first | (with_reducible first | exact HB.out | apply below_alloc | apply pw_below_drewN | apply below_drew1) | exact HB.out)⟩⟩
  case rest =>
    clear HC4
    try clear c2
    try clear p2
    try clear c5
    try clear c5b0
    try clear c5b1
    obtain ⟨kq, x20_3, rfl, HA, HJ3, HB⟩ := hcut
    cases kq with
    | zero => exact absurd HA.out (by simp [minstrellaw07_CodeMakes.j0])
    | succ kj3 =>
      have H := HA.out
      clear HA
      simp only [minstrellaw07_CodeMakes.j0] at H
      by_cases c8 : x20_3 = true
      · subst c8
        have H1 : ((minstrellaw07_lives.f kj3).bind fun t168 => (some t168)) = some r := by rw [if_pos rfl] at H; exact H
        clear H
        have H := H1
        clear H1
        replace H := Option.bind_eq_some_iff.mp H
        obtain ⟨t168, A90, H⟩ := H
        replace H : (some t168) = some r := H
        have A9 := Aside0.mk A90
        clear A90
        obtain rfl := Option.some.inj H
        go_wp2_with (first | ((with_reducible refine gate_callee (f := 11) rfl ?_); refine goesL_ (some 21) rfl rfl Try.func11 (by kernel_rfl) rfl #[] rfl (by (try simp only [List.map_toArray, List.map_cons, List.map_nil]); first | done | rfl | (simp only [List.length_drop, List.length_take]; rfl)) ?_; (with_reducible refine (minstrellaw07_lives.calls kj3  t168 _ A9.out).mono ?_); rintro e w10 ⟨rfl, hb⟩; refine ⟨_, rfl, ?_⟩; have n0_ := Aside0.mk (below_step (by repeat (first | (with_reducible first | exact HB.out | apply below_alloc | apply pw_below_drewN | apply below_drew1) | exact HB.out)) hb); clear HB; have HB := n0_; clear n0_; (try clear hb); (try clear hb2); (try clear hk); (try clear hi)))
        go_ret
        exact ⟨by first | rfl | (simp [errW_none, errW_some] <;> rfl) | (simp [*, errW_none, errW_some] <;> rfl), by repeat (first | (with_reducible first | exact HB.out | apply below_alloc | apply pw_below_drewN | apply below_drew1) | exact HB.out)⟩
      · replace c8 := Bool.eq_false_iff.mpr c8
        subst c8
        have H1 : (minstrellaw07_CodeMakes.l0 kj3 a0 a1 l2 (([] : List (S26))) 0) = some r := by rw [if_neg (show ¬ (false = true) by decide)] at H; exact H
        clear H
        have H := H1
        clear H1
        obtain ⟨y169, hy169⟩ : ∃ y_ : List (S26), y_ = (([] : List (S26))) := ⟨_, rfl⟩
        replace H : (minstrellaw07_CodeMakes.l0 kj3 a0 a1 l2 y169 0) = some r := by first | (rw [hy169]; with_reducible exact H) | (have H2_ := (Option.bind_some _ _).symm.trans H; rw [hy169]; with_reducible exact H2_) | (have H2_ := (Option.bind_some _ _).symm.trans H; with_reducible exact H2_) | with_reducible exact H | (rw [hy169]; exact H) | exact H
        have Ny169 := Aside0.mk hy169
        clear hy169
        have H' := Aside0.mk H
        clear H
        go_wp2_with (first | ((with_reducible refine gate_dst (N := 22) rfl ?_); refine Kd.R_lit k26 _ 26 ?hg (N := 22) ?hd (xs := ([] : List (S26))) (inner := []) (ok := fun _ => True) (okp := fun _ => True) ?hr ?hp (fun _ hk => hk) trivial (Below.refl _ _) (Nat.le_refl _) (by simp) ?_; (case hd => rfl); (case hg => rfl); (case hr => first | (go_simp; done) | (go_simp; rfl)); (case hp => exact (Reps.none _ _)); intro v170 w11 ho12 hb hg_ hnew_; clear hg_ hnew_; (first | rw [← Ny169.out] at ho12 | (simp only [Int.reduceToNat] at ho12; rw [← Ny169.out] at ho12)); have n0_ := Aside0.mk (Kd.R_lower ho12 (below_size (by repeat (first | (with_reducible first | exact HB.out | apply below_alloc | apply pw_below_drewN | apply below_drew1) | exact HB.out)))); have n1_ := Aside0.mk (below_step (by repeat (first | (with_reducible first | exact HB.out | apply below_alloc | apply pw_below_drewN | apply below_drew1) | exact HB.out)) hb); clear HB; have HO171 := n0_; have HB := n1_; clear n0_ n1_; clear hb ho12))
        go_loopg [7, 8] kj3 (fun kq v7 v8 w' => ∃ (x7_2 : List (S26)) (x8_2 : Int), v8 = .int .i64 x8_2 ∧ Aside0 (minstrellaw07_CodeMakes.l0 kq a0 a1 l2 x7_2 x8_2 = some r) ∧ Aside0 (kq ≤ kj3) ∧ Aside0 (Kd.R k26 26 w' w.heap.size (fun _ => True) v7 x7_2) ∧ Aside0 (Below w.heap.size w w'))
        case atStart => exact ⟨(y169), (0), (by first | rfl | (simp; done) | (simp [*]; done)), H', ⟨Nat.le_refl _⟩, ⟨by (with_reducible repeat (first | apply Kd.R_alloc | apply Kd.R_drewN | apply Kd.R_drew)); exact HO171.out⟩, ⟨by repeat (first | (with_reducible first | exact HB.out | apply below_alloc | apply pw_below_drewN | apply below_drew1) | exact HB.out)⟩⟩
        case round =>
          clear H'
          try clear c1
          try clear c2
          try clear p2
          try clear c5
          try clear c5b0
          try clear c5b1
          try clear c8
          try clear c11
          try clear p2
          obtain ⟨x7_2, x8_2, rfl, HA, HK2, HO_7, HB⟩ := hrel
          cases gk with
          | zero => exact absurd HA.out (by simp [minstrellaw07_CodeMakes.l0])
          | succ k2 =>
            have H := HA.out
            clear HA
            simp only [minstrellaw07_CodeMakes.l0] at H
            by_cases c13 : x8_2 < (l2.length : Int)
            · rw [if_pos c13] at H
              have c13b0 : decide (x8_2 < (l2.length : Int)) = true := decide_eq_true c13
              clear c13
              by_cases c14 : 0 ≤ x8_2
              · rw [if_pos c14] at H
                have c14b0 : decide (0 ≤ x8_2) = true := decide_eq_true c14
                clear c14
                replace H := Option.bind_eq_some_iff.mp H
                obtain ⟨⟨t173, t174, t175, t176⟩, A150, H⟩ := H
                replace H : (if x7_2.length < 2513169434916 then (minstrellaw07_CodeMakes.l0 k2 a0 a1 l2 (x7_2 ++ [(⟨t173, t174, t175, t176⟩ : S26)]) (wrap64 (x8_2 + 1))) else (none)) = some r := H
                have A15 := Aside0.mk A150
                clear A150
                by_cases c16 : x7_2.length < 2513169434916
                · rw [if_pos c16] at H
                  have LMc16 := Aside0.mk c16
                  clear c16
                  obtain ⟨y179, hy179⟩ : ∃ y_ : List (S26), y_ = (x7_2 ++ [(⟨t173, t174, t175, t176⟩ : S26)]) := ⟨_, rfl⟩
                  replace H : (minstrellaw07_CodeMakes.l0 k2 a0 a1 l2 y179 (wrap64 (x8_2 + 1))) = some r := by first | (rw [hy179]; with_reducible exact H) | (have H2_ := (Option.bind_some _ _).symm.trans H; rw [hy179]; with_reducible exact H2_) | (have H2_ := (Option.bind_some _ _).symm.trans H; with_reducible exact H2_) | with_reducible exact H | (rw [hy179]; exact H) | exact H
                  have Ny179 := Aside0.mk hy179
                  clear hy179
                  have H' := Aside0.mk H
                  clear H
                  have p172 : 0 ≤ (x8_2 : Int) := of_decide_eq_true (by first | (with_reducible assumption) | assumption)
                  have q172 : x8_2 < (l2.length : Int) := of_decide_eq_true (by first | (with_reducible assumption) | assumption)
                  obtain ⟨ad172, A172_3, c172_3, e172, hx172_0, hx172_1, hx172_2, hx172_3, hl172_3, hi172_3⟩ := at_T26 HR2.out x8_2 p172 q172
                  cases e172
                  replace hx172_0 := (HB.out.cell (World.block_lt_of_cell? w _ hx172_0)).trans hx172_0
                  replace hx172_1 := (HB.out.cell (World.block_lt_of_cell? w _ hx172_1)).trans hx172_1
                  replace hx172_2 := (HB.out.cell (World.block_lt_of_cell? w _ hx172_2)).trans hx172_2
                  replace hx172_3 := (HB.out.cell (World.block_lt_of_cell? w _ hx172_3)).trans hx172_3
                  have HR172_3 := Aside0.mk hi172_3
                  have HC172_3 := Aside0.mk hl172_3
                  clear hi172_3 hl172_3
                  replace p172 := eq_true p172
                  replace q172 := eq_true q172
                  go_wp2_with (first | ((with_reducible refine gate_callee (f := 14) rfl ?_); refine goesL_ (some 34) rfl rfl Try.func14 (by kernel_rfl) rfl #[.agg #[.int .i64 ((rd_T26 l2 x8_2).f0), .int .u64 ((rd_T26 l2 x8_2).f1), .string ((rd_T26 l2 x8_2).f2), .slice A172_3 ((rd_T26 l2 x8_2).f3).length c172_3]] rfl (by (try simp only [List.map_toArray, List.map_cons, List.map_nil]); first | done | rfl | (simp only [List.length_drop, List.length_take]; rfl)) ?_; (with_reducible refine (minstrelref07_Own.calls k2 ((rd_T26 l2 x8_2).f0) ((rd_T26 l2 x8_2).f1) ((rd_T26 l2 x8_2).f2) _ _ ((rd_T26 l2 x8_2).f3) t173 t174 t175 t176 _ ?side1 ?side2 A15.out).mono ?_); (case side1 => repeat (first | exact (Kd.C_below HR172_3.out HB.out) | (with_reducible refine Kd.C_alloc ?_ _) | (with_reducible refine Kd.C_drewN ?_ _) | (with_reducible refine Kd.C_drew ?_))); (case side2 => exact HC172_3.out); rintro e w17 ⟨v177, rfl, ho0, hb⟩; refine ⟨_, rfl, ?_⟩; have n0_ := Aside0.mk (Kd.R_elder' (by (with_reducible repeat (first | apply Kd.R_alloc | apply Kd.R_drewN | apply Kd.R_drew)); exact HO_7.out) (Kd.R_base ho0) hb); have n1_ := Aside0.mk (Kd.R_lower (Kd.R_new' ho0 (Kd.R_lt (by (with_reducible repeat (first | apply Kd.R_alloc | apply Kd.R_drewN | apply Kd.R_drew)); exact HO_7.out))) (below_size (by repeat (first | (with_reducible first | exact HB.out | apply below_alloc | apply pw_below_drewN | apply below_drew1) | exact HB.out)))); have n2_ := Aside0.mk (below_step (by repeat (first | (with_reducible first | exact HB.out | apply below_alloc | apply pw_below_drewN | apply below_drew1) | exact HB.out)) hb); clear HO_7; clear HB; have HO_7 := n0_; have HO178 := n1_; have HB := n2_; clear n0_ n1_ n2_; (try clear hb); (try clear hb2); (try clear hk); (try clear hi); (try clear ho0); obtain ⟨Ao19, co19, eo19⟩ := Kd.R_slice HO178.out; subst eo19) | ((with_reducible refine gate_builtin (b := .append) (xs := #[.tmp 29, .tmp 35]) rfl ?_); at_builtin; refine Kd.R_append k26 (w0 := w) w.heap.size rfl (.tmp 29) (.tmp 35) 24 26 (.agg #[(.int .i64 0), (.int .u64 0), (.string ⟨#[]⟩), (.slice none 0 0)]) 56 rfl Try.underlying24 info26 rfl (by decide) (by omega) u7 x7_2 (⟨t173, t174, t175, t176⟩ : S26) [.int .i64 t173, .int .u64 t174, .string t175, .slice Ao19 t176.length co19] (fun _ => True) (fun k_ => ((fun _ => True)) k_ ∧ some k_ ≠ (u7 : Value).ownBlock) rfl rfl ?aP (fun _ hk => hk) ?aF ?aO ?aB ?aS ?aL ?_; (case aP => exact k26_mkM _ _ _ (⟨t173, t174, t175, t176⟩ : S26) (Kd.R_mono (HO178.out) (fun k_ hk => ⟨trivial, hk.2⟩))); (case aB => exact (by repeat (first | (with_reducible first | exact HB.out | apply below_alloc | apply pw_below_drewN | apply below_drew1) | exact HB.out))); (case aF => exact (fun _ _ => trivial)); (case aO => exact (by (with_reducible repeat (first | apply Kd.R_alloc | apply Kd.R_drewN | apply Kd.R_drew)); exact Kd.R_mono HO_7.out (fun _ hk => trivial))); (case aS => exact (below_size (by repeat (first | (with_reducible first | exact HB.out | apply below_alloc | apply pw_below_drewN | apply below_drew1) | exact HB.out)))); (case aL => have := LMc16.out; omega); intro v180 w18 ho hb hg hat; rw [← Ny179.out] at ho; have n0_ := Aside0.mk (hb); have n1_ := Aside0.mk (ho); clear HB; clear HO_7; clear HO178; have HB := n0_; have HO181 := n1_; clear n0_ n1_; clear ho hb hg hat))
                  go_roundg k2
                  case measure => have := HJ3.out; have := HK2.out; omega
                  case rel => exact ⟨(y179), (wrap64 (x8_2 + 1)), (by first | rfl | (simp; done) | (simp [*]; done)), H', ⟨by have := HJ3.out; have := HK2.out; omega⟩, ⟨by (with_reducible repeat (first | apply Kd.R_alloc | apply Kd.R_drewN | apply Kd.R_drew)); exact HO181.out⟩, ⟨by repeat (first | (with_reducible first | exact HB.out | apply below_alloc | apply pw_below_drewN | apply below_drew1) | exact HB.out)⟩⟩
                · rw [if_neg c16] at H
                  exact absurd H (by simp)
              · rw [if_neg c14] at H
                exact absurd H (by simp)
            · rw [if_neg c13] at H
              have c13b0 : decide (x8_2 < (l2.length : Int)) = false := decide_eq_false c13
              clear c13
              replace H := Option.bind_eq_some_iff.mp H
              obtain ⟨⟨t182, t183, t184, t185⟩, A200, H⟩ := H
              replace H : ((minstrelref07_List.f l2).bind fun bt189 => ((minstrelref07_Same.f k2 t182 t183 t184 t185 bt189.1 bt189.2.1 bt189.2.2.1 bt189.2.2.2).bind fun t195 => (if t195 = true then ((code_Number.f a0).bind fun bt196 => ((minstrelref07_Number.f a0).bind fun bt202 => ((minstrelref07_Same.f k2 bt196.1 bt196.2.1 bt196.2.2.1 bt196.2.2.2 bt202.1 bt202.2.1 bt202.2.2.1 bt202.2.2.2).bind fun t208 => (if t208 = true then ((code_Text.f a1).bind fun bt209 => ((minstrelref07_Text.f a1).bind fun bt215 => ((minstrelref07_Same.f k2 bt209.1 bt209.2.1 bt209.2.2.1 bt209.2.2.2 bt215.1 bt215.2.1 bt215.2.2.1 bt215.2.2.2).bind fun t221 => (if t221 = true then ((minstrellaw07_lives.f k2).bind fun t222 => (some t222)) else (some false))))) else (some false))))) else (some false)))) = some r := H
              have A20 := Aside0.mk A200
              clear A200
              replace H := Option.bind_eq_some_iff.mp H
              obtain ⟨⟨t189, t190, t191, t192⟩, A210, H⟩ := H
              replace H : ((minstrelref07_Same.f k2 t182 t183 t184 t185 t189 t190 t191 t192).bind fun t195 => (if t195 = true then ((code_Number.f a0).bind fun bt196 => ((minstrelref07_Number.f a0).bind fun bt202 => ((minstrelref07_Same.f k2 bt196.1 bt196.2.1 bt196.2.2.1 bt196.2.2.2 bt202.1 bt202.2.1 bt202.2.2.1 bt202.2.2.2).bind fun t208 => (if t208 = true then ((code_Text.f a1).bind fun bt209 => ((minstrelref07_Text.f a1).bind fun bt215 => ((minstrelref07_Same.f k2 bt209.1 bt209.2.1 bt209.2.2.1 bt209.2.2.2 bt215.1 bt215.2.1 bt215.2.2.1 bt215.2.2.2).bind fun t221 => (if t221 = true then ((minstrellaw07_lives.f k2).bind fun t222 => (some t222)) else (some false))))) else (some false))))) else (some false))) = some r := H
              have A21 := Aside0.mk A210
              clear A210
              replace H := Option.bind_eq_some_iff.mp H
              obtain ⟨t195, A220, H⟩ := H
              replace H : (if t195 = true then ((code_Number.f a0).bind fun bt196 => ((minstrelref07_Number.f a0).bind fun bt202 => ((minstrelref07_Same.f k2 bt196.1 bt196.2.1 bt196.2.2.1 bt196.2.2.2 bt202.1 bt202.2.1 bt202.2.2.1 bt202.2.2.2).bind fun t208 => (if t208 = true then ((code_Text.f a1).bind fun bt209 => ((minstrelref07_Text.f a1).bind fun bt215 => ((minstrelref07_Same.f k2 bt209.1 bt209.2.1 bt209.2.2.1 bt209.2.2.2 bt215.1 bt215.2.1 bt215.2.2.1 bt215.2.2.2).bind fun t221 => (if t221 = true then ((minstrellaw07_lives.f k2).bind fun t222 => (some t222)) else (some false))))) else (some false))))) else (some false)) = some r := H
              have A22 := Aside0.mk A220
              clear A220
              by_cases c23 : t195 = true
              · subst c23
                have H1 : ((code_Number.f a0).bind fun bt196 => ((minstrelref07_Number.f a0).bind fun bt202 => ((minstrelref07_Same.f k2 bt196.1 bt196.2.1 bt196.2.2.1 bt196.2.2.2 bt202.1 bt202.2.1 bt202.2.2.1 bt202.2.2.2).bind fun t208 => (if t208 = true then ((code_Text.f a1).bind fun bt209 => ((minstrelref07_Text.f a1).bind fun bt215 => ((minstrelref07_Same.f k2 bt209.1 bt209.2.1 bt209.2.2.1 bt209.2.2.2 bt215.1 bt215.2.1 bt215.2.2.1 bt215.2.2.2).bind fun t221 => (if t221 = true then ((minstrellaw07_lives.f k2).bind fun t222 => (some t222)) else (some false))))) else (some false))))) = some r := by rw [if_pos rfl] at H; exact H
                clear H
                have H := H1
                clear H1
                replace H := Option.bind_eq_some_iff.mp H
                obtain ⟨⟨t196, t197, t198, t199⟩, A240, H⟩ := H
                replace H : ((minstrelref07_Number.f a0).bind fun bt202 => ((minstrelref07_Same.f k2 t196 t197 t198 t199 bt202.1 bt202.2.1 bt202.2.2.1 bt202.2.2.2).bind fun t208 => (if t208 = true then ((code_Text.f a1).bind fun bt209 => ((minstrelref07_Text.f a1).bind fun bt215 => ((minstrelref07_Same.f k2 bt209.1 bt209.2.1 bt209.2.2.1 bt209.2.2.2 bt215.1 bt215.2.1 bt215.2.2.1 bt215.2.2.2).bind fun t221 => (if t221 = true then ((minstrellaw07_lives.f k2).bind fun t222 => (some t222)) else (some false))))) else (some false)))) = some r := H
                have A24 := Aside0.mk A240
                clear A240
                replace H := Option.bind_eq_some_iff.mp H
                obtain ⟨⟨t202, t203, t204, t205⟩, A250, H⟩ := H
                replace H : ((minstrelref07_Same.f k2 t196 t197 t198 t199 t202 t203 t204 t205).bind fun t208 => (if t208 = true then ((code_Text.f a1).bind fun bt209 => ((minstrelref07_Text.f a1).bind fun bt215 => ((minstrelref07_Same.f k2 bt209.1 bt209.2.1 bt209.2.2.1 bt209.2.2.2 bt215.1 bt215.2.1 bt215.2.2.1 bt215.2.2.2).bind fun t221 => (if t221 = true then ((minstrellaw07_lives.f k2).bind fun t222 => (some t222)) else (some false))))) else (some false))) = some r := H
                have A25 := Aside0.mk A250
                clear A250
                replace H := Option.bind_eq_some_iff.mp H
                obtain ⟨t208, A260, H⟩ := H
                replace H : (if t208 = true then ((code_Text.f a1).bind fun bt209 => ((minstrelref07_Text.f a1).bind fun bt215 => ((minstrelref07_Same.f k2 bt209.1 bt209.2.1 bt209.2.2.1 bt209.2.2.2 bt215.1 bt215.2.1 bt215.2.2.1 bt215.2.2.2).bind fun t221 => (if t221 = true then ((minstrellaw07_lives.f k2).bind fun t222 => (some t222)) else (some false))))) else (some false)) = some r := H
                have A26 := Aside0.mk A260
                clear A260
                by_cases c27 : t208 = true
                · subst c27
                  have H1 : ((code_Text.f a1).bind fun bt209 => ((minstrelref07_Text.f a1).bind fun bt215 => ((minstrelref07_Same.f k2 bt209.1 bt209.2.1 bt209.2.2.1 bt209.2.2.2 bt215.1 bt215.2.1 bt215.2.2.1 bt215.2.2.2).bind fun t221 => (if t221 = true then ((minstrellaw07_lives.f k2).bind fun t222 => (some t222)) else (some false))))) = some r := by rw [if_pos rfl] at H; exact H
                  clear H
                  have H := H1
                  clear H1
                  replace H := Option.bind_eq_some_iff.mp H
                  obtain ⟨⟨t209, t210, t211, t212⟩, A280, H⟩ := H
                  replace H : ((minstrelref07_Text.f a1).bind fun bt215 => ((minstrelref07_Same.f k2 t209 t210 t211 t212 bt215.1 bt215.2.1 bt215.2.2.1 bt215.2.2.2).bind fun t221 => (if t221 = true then ((minstrellaw07_lives.f k2).bind fun t222 => (some t222)) else (some false)))) = some r := H
                  have A28 := Aside0.mk A280
                  clear A280
                  replace H := Option.bind_eq_some_iff.mp H
                  obtain ⟨⟨t215, t216, t217, t218⟩, A290, H⟩ := H
                  replace H : ((minstrelref07_Same.f k2 t209 t210 t211 t212 t215 t216 t217 t218).bind fun t221 => (if t221 = true then ((minstrellaw07_lives.f k2).bind fun t222 => (some t222)) else (some false))) = some r := H
                  have A29 := Aside0.mk A290
                  clear A290
                  replace H := Option.bind_eq_some_iff.mp H
                  obtain ⟨t221, A300, H⟩ := H
                  replace H : (if t221 = true then ((minstrellaw07_lives.f k2).bind fun t222 => (some t222)) else (some false)) = some r := H
                  have A30 := Aside0.mk A300
                  clear A300
                  by_cases c31 : t221 = true
                  · subst c31
                    have H1 : ((minstrellaw07_lives.f k2).bind fun t222 => (some t222)) = some r := by rw [if_pos rfl] at H; exact H
                    clear H
                    have H := H1
                    clear H1
                    replace H := Option.bind_eq_some_iff.mp H
                    obtain ⟨t222, A320, H⟩ := H
                    replace H : (some t222) = some r := H
                    have A32 := Aside0.mk A320
                    clear A320
                    obtain rfl := Option.some.inj H
                    obtain ⟨Ao33, co33, eo33⟩ := Kd.R_slice HO_7.out
                    subst eo33
                    try go_wp2_with (first | ((with_reducible refine gate_callee (f := 15) rfl ?_); refine goesL_ (some 38) rfl rfl Try.func15 (by kernel_rfl) rfl #[.slice Ao33 x7_2.length co33] rfl (by (try simp only [List.map_toArray, List.map_cons, List.map_nil]); first | done | rfl | (simp only [List.length_drop, List.length_take]; rfl)) ?_; (with_reducible refine (code_List.calls k2 _ _ x7_2 t182 t183 t184 t185 _ ?side1 ?side2 A20.out).mono ?_); (case side1 => repeat (first | exact (Kd.R_reads' HO_7.out).2.2 | (with_reducible refine Kd.C_alloc ?_ _) | (with_reducible refine Kd.C_drewN ?_ _) | (with_reducible refine Kd.C_drew ?_))); (case side2 => exact (Kd.R_reads' HO_7.out).2.1); rintro e w34 ⟨v186, rfl, ho0, hb⟩; refine ⟨_, rfl, ?_⟩; have AP := Aside0.mk (Apart2.made (by (with_reducible repeat (first | apply Kd.R_alloc | apply Kd.R_drewN | apply Kd.R_drew)); exact HO_7.out) hb ho0 (below_size (by repeat (first | (with_reducible first | exact HB.out | apply below_alloc | apply pw_below_drewN | apply below_drew1) | exact HB.out)))); have n0_ := Aside0.mk (Kd.R_elder' (by (with_reducible repeat (first | apply Kd.R_alloc | apply Kd.R_drewN | apply Kd.R_drew)); exact HO_7.out) (Kd.R_base ho0) hb); have n1_ := Aside0.mk (Kd.R_lower (Kd.R_new' ho0 (Kd.R_lt (by (with_reducible repeat (first | apply Kd.R_alloc | apply Kd.R_drewN | apply Kd.R_drew)); exact HO_7.out))) (below_size (by repeat (first | (with_reducible first | exact HB.out | apply below_alloc | apply pw_below_drewN | apply below_drew1) | exact HB.out)))); have n2_ := Aside0.mk (below_step (by repeat (first | (with_reducible first | exact HB.out | apply below_alloc | apply pw_below_drewN | apply below_drew1) | exact HB.out)) hb); clear HO_7; clear HB; have HO_7 := n0_; have HO187 := n1_; have HB := n2_; clear n0_ n1_ n2_; (try clear hb); (try clear hb2); (try clear hk); (try clear hi); (try clear ho0)) | ((with_reducible refine gate_dst (N := 9) rfl ?_); refine box_event ?hg (N := 9) ?hd (cs := #[.int .i64 0, .int .u64 0, .string (⟨#[]⟩ : ByteArray), .slice none 0 0]) (t := 26) ?hr ?_; (case hd => rfl); (case hg => rfl); (case hr => first | (go_simp; done) | (go_simp; rfl)); intro gb188 hg w35 hbox hb; have AP3 := Aside0.mk (Apart2.box AP.out hg hb); clear AP; have n0_ := Aside0.mk (Kd.R_below (Kd.R_elderB (by (with_reducible repeat (first | apply Kd.R_alloc | apply Kd.R_drewN | apply Kd.R_drew)); exact HO_7.out) gb188 (Nat.le_of_eq hg.symm)) hb); have n1_ := Aside0.mk (Kd.R_below (Kd.R_elderB (by (with_reducible repeat (first | apply Kd.R_alloc | apply Kd.R_drewN | apply Kd.R_drew)); exact HO187.out) gb188 (Nat.le_of_eq hg.symm)) hb); have n2_ := Aside0.mk (below_step (by repeat (first | (with_reducible first | exact HB.out | apply below_alloc | apply pw_below_drewN | apply below_drew1) | exact HB.out)) hb); have n3_ := Aside0.mk (hbox); have n4_ := Aside0.mk ((by rw [hg]; exact (below_size (by repeat (first | (with_reducible first | exact HB.out | apply below_alloc | apply pw_below_drewN | apply below_drew1) | exact HB.out))) : w.heap.size ≤ gb188)); have n5_ := Aside0.mk ((by rw [hg]; exact (below_size (by repeat (first | (with_reducible first | exact HB.out | apply below_alloc | apply pw_below_drewN | apply below_drew1) | exact HB.out))) : w.heap.size ≤ gb188)); clear HO_7; clear HO187; clear HB; have HO_7 := n0_; have HO187 := n1_; have HB := n2_; have BK188 := n3_; have GW188 := n4_; have GE188 := n5_; clear n0_ n1_ n2_ n3_ n4_ n5_; clear hb hbox hg; have hcz36_0 : w35.cell? ⟨gb188, 0, none⟩ = some (.int .i64 0) := (blk_cell BK188.out 0).trans rfl; have hcz36_1 : w35.cell? ⟨gb188, 1, none⟩ = some (.int .u64 0) := (blk_cell BK188.out 1).trans rfl; have hcz36_2 : w35.cell? ⟨gb188, 2, none⟩ = some (.string (⟨#[]⟩ : ByteArray)) := (blk_cell BK188.out 2).trans rfl; have hcz36_3 : w35.cell? ⟨gb188, 3, none⟩ = some (.slice none 0 0) := (blk_cell BK188.out 3).trans rfl; have hfz36_0 := blk_frozen BK188.out 0; have hfz36_1 := blk_frozen BK188.out 1; have hfz36_2 := blk_frozen BK188.out 2; have hfz36_3 := blk_frozen BK188.out 3; obtain ⟨Ao37, co37, eo37⟩ := Kd.R_slice HO187.out; subst eo37))
                    have n0_ : Aside0 (Kd.R k26 26 ((((w35.setCell ⟨gb188, 0, none⟩ (.int .i64 t182)).setCell ⟨gb188, 1, none⟩ (.int .u64 t183)).setCell ⟨gb188, 2, none⟩ (.string t184)).setCell ⟨gb188, 3, none⟩ (.slice Ao37 t185.length co37)) w.heap.size (fun k_ => some k_ ≠ (.slice Ao37 t185.length co37 : Value).ownBlock ∧ k_ ≠ gb188) (.slice Ao33 x7_2.length co33) x7_2) := ⟨by (with_reducible repeat (first | apply Kd.R_alloc | apply Kd.R_drewN | apply Kd.R_drew)); exact Kd.R_mono (Kd.R_far (p := ⟨gb188, 3, none⟩) (Kd.R_far (p := ⟨gb188, 2, none⟩) (Kd.R_far (p := ⟨gb188, 1, none⟩) (Kd.R_far (p := ⟨gb188, 0, none⟩) (Kd.R_mono HO_7.out (fun k_ hk => (⟨hk, hk.2⟩ : _ ∧ k_ ≠ gb188))) (fun _ hk => hk.2) (.int .i64 t182)) (fun _ hk => hk.2) (.int .u64 t183)) (fun _ hk => hk.2) (.string t184)) (fun _ hk => hk.2) (.slice Ao37 t185.length co37)) (fun _ hk => ⟨hk.1.1.2, hk.1.2⟩)⟩
                    have n1_ : Aside0 (Kd.R k26 26 ((((w35.setCell ⟨gb188, 0, none⟩ (.int .i64 t182)).setCell ⟨gb188, 1, none⟩ (.int .u64 t183)).setCell ⟨gb188, 2, none⟩ (.string t184)).setCell ⟨gb188, 3, none⟩ (.slice Ao37 t185.length co37)) w.heap.size (fun k_ => some k_ ≠ (.slice Ao33 x7_2.length co33 : Value).ownBlock ∧ k_ ≠ gb188) (.slice Ao37 t185.length co37) t185) := ⟨by (with_reducible repeat (first | apply Kd.R_alloc | apply Kd.R_drewN | apply Kd.R_drew)); exact Kd.R_mono (Kd.R_far (p := ⟨gb188, 3, none⟩) (Kd.R_far (p := ⟨gb188, 2, none⟩) (Kd.R_far (p := ⟨gb188, 1, none⟩) (Kd.R_far (p := ⟨gb188, 0, none⟩) (Kd.R_mono HO187.out (fun k_ hk => (⟨hk, hk.2⟩ : _ ∧ k_ ≠ gb188))) (fun _ hk => hk.2) (.int .i64 t182)) (fun _ hk => hk.2) (.int .u64 t183)) (fun _ hk => hk.2) (.string t184)) (fun _ hk => hk.2) (.slice Ao37 t185.length co37)) (fun _ hk => ⟨hk.1.1.2, hk.1.2⟩)⟩
                    have n2_ : Aside0 (((((w35.setCell ⟨gb188, 0, none⟩ (.int .i64 t182)).setCell ⟨gb188, 1, none⟩ (.int .u64 t183)).setCell ⟨gb188, 2, none⟩ (.string t184)).setCell ⟨gb188, 3, none⟩ (.slice Ao37 t185.length co37)).heap[gb188]? = some (.cells #[.int .i64 t182, .int .u64 t183, .string t184, .slice Ao37 t185.length co37] 26 (0, 0))) := ⟨by (with_reducible repeat (first | refine blk_drewN ?_ _ | refine blk_drew ?_ | refine blk_alloc ?_ _)); refine blk_put (cs := #[.int .i64 t182, .int .u64 t183, .string t184, .slice none 0 0]) ?_ 3 _ rfl; (with_reducible repeat (first | refine blk_drewN ?_ _ | refine blk_drew ?_ | refine blk_alloc ?_ _)); refine blk_put (cs := #[.int .i64 t182, .int .u64 t183, .string (⟨#[]⟩ : ByteArray), .slice none 0 0]) ?_ 2 _ rfl; (with_reducible repeat (first | refine blk_drewN ?_ _ | refine blk_drew ?_ | refine blk_alloc ?_ _)); refine blk_put (cs := #[.int .i64 t182, .int .u64 0, .string (⟨#[]⟩ : ByteArray), .slice none 0 0]) ?_ 1 _ rfl; (with_reducible repeat (first | refine blk_drewN ?_ _ | refine blk_drew ?_ | refine blk_alloc ?_ _)); refine blk_put (cs := #[.int .i64 0, .int .u64 0, .string (⟨#[]⟩ : ByteArray), .slice none 0 0]) ?_ 0 _ rfl; (with_reducible repeat (first | refine blk_drewN ?_ _ | refine blk_drew ?_ | refine blk_alloc ?_ _)); exact BK188.out⟩
                    have n3_ : Aside0 (Below w.heap.size w ((((w35.setCell ⟨gb188, 0, none⟩ (.int .i64 t182)).setCell ⟨gb188, 1, none⟩ (.int .u64 t183)).setCell ⟨gb188, 2, none⟩ (.string t184)).setCell ⟨gb188, 3, none⟩ (.slice Ao37 t185.length co37))) := ⟨by repeat (first | (with_reducible first | exact HB.out | apply below_alloc | apply pw_below_drewN | apply below_drew1 | refine below_set ?_ GE188.out) | exact HB.out)⟩
                    (try clear HO_7)
                    (try clear HO187)
                    (try clear BK188)
                    (try clear HB)
                    have n9_ : Aside0 (Apart3 w.heap.size ((((w35.setCell ⟨gb188, 0, none⟩ (.int .i64 t182)).setCell ⟨gb188, 1, none⟩ (.int .u64 t183)).setCell ⟨gb188, 2, none⟩ (.string t184)).setCell ⟨gb188, 3, none⟩ (.slice Ao37 t185.length co37)) (.slice Ao33 x7_2.length co33) (.slice Ao37 t185.length co37) x7_2 t185 gb188) := ⟨(((AP3.out.set 0 _).set 1 _).set 2 _).set 3 _⟩
                    clear AP3
                    generalize ((((w35.setCell ⟨gb188, 0, none⟩ (.int .i64 t182)).setCell ⟨gb188, 1, none⟩ (.int .u64 t183)).setCell ⟨gb188, 2, none⟩ (.string t184)).setCell ⟨gb188, 3, none⟩ (.slice Ao37 t185.length co37)) = w38 at n0_ n1_ n2_ n3_ n9_ ⊢
                    have HO_7 := n0_
                    have HO187 := n1_
                    have BK188 := n2_
                    have HB := n3_
                    clear n0_ n1_ n2_ n3_
                    obtain ⟨Bm, hB1, hB2, hB3, hB4⟩ := n9_.out
                    have AM := MkInv.made hB3
                    have HC := Aside0.mk hB4
                    have HBm := Aside0.mk (And.intro hB1 hB2)
                    have AM0 : Aside0 (x7_2.length = 0 ∧ w38 = w38 ∨ ∃ g, Ao33 = some ⟨g, 0, none⟩ ∧ MkInv w.heap.size Bm g x7_2.length 0 w38 w38) := ⟨AM.imp (fun h => ⟨h, rfl⟩) id⟩
                    clear AM hB1 hB2 hB3 hB4 HO_7 HO187 n9_
                    go_loopg [10, 11] (x7_2.length) (fun j v10 v11 w' => ∃ i : Int, v10 = .int .i64 i ∧ Aside0 (∃ I : Nat, i = (I : Int) ∧ I + j = x7_2.length ∧ (x7_2.length = 0 ∧ w' = w38 ∨ ∃ g, Ao33 = some ⟨g, 0, none⟩ ∧ MkInv w.heap.size Bm g x7_2.length I w38 w')))
                    case atStart => exact ⟨0, rfl, ⟨0, rfl, by omega, AM0.out⟩⟩
                    case round =>
                      clear AM0
                      obtain ⟨i10, rfl, HM⟩ := hrel
                      cases gk with
                      | zero =>
                        have b10 : decide (i10 < (x7_2.length : Int)) = false := decide_eq_false (by obtain ⟨I, h1, h2, _⟩ := HM.out; omega)
                        have HS : Aside0 ((∀ k, Bm ≤ k → wr.heap[k]? = w38.heap[k]?) ∧ Below w.heap.size w38 wr) := ⟨by
                          obtain ⟨I, _, _, h | ⟨g, _, h⟩⟩ := HM.out
                          · rw [h.2]; exact ⟨fun _ _ => rfl, Below.refl _ _⟩
                          · exact ⟨fun k hk => h.same k (.inr hk), h.bel⟩⟩
                        clear HM
                        go_wp2
                        have n0_ : Aside0 (Kd.R k26 26 wr w.heap.size (fun k_ => some k_ ≠ (.slice Ao37 t185.length co37 : Value).ownBlock ∧ k_ ≠ gb188) (.slice none 0 0) []) := ⟨Kd.R_nil _ _ _ _ _⟩
                        have n1_ : Aside0 (Kd.R k26 26 wr w.heap.size (fun k_ => some k_ ≠ (.slice none 0 0 : Value).ownBlock ∧ k_ ≠ gb188) (.slice Ao37 t185.length co37) t185) := ⟨Kd.R_mono (Kd.R_move HC.out (fun k hk => HS.out.1 k hk.1)) (fun k hk => ⟨by simp [Value.ownBlock], hk.2⟩)⟩
                        have n2_ := Aside0.mk ((HS.out.1 gb188 HBm.out.2).trans BK188.out)
                        have n3_ := Aside0.mk (HB.out.trans HS.out.2)
                        clear BK188 HB HC HS HBm
                        have HO_7 := n0_
                        have HO187 := n1_
                        have BK188 := n2_
                        have HB := n3_
                        clear n0_ n1_ n2_ n3_
                        have n0_ := Aside0.mk (Kd.R_drew HO_7.out)
                        have n1_ := Aside0.mk (Kd.R_drew HO187.out)
                        have n2_ := Aside0.mk (blk_drew BK188.out)
                        have n3_ := Aside0.mk (below_drew1 HB.out)
                        clear HO_7
                        clear HO187
                        clear BK188
                        clear HB
                        have HO_7 := n0_
                        have HO187 := n1_
                        have BK188 := n2_
                        have HB := n3_
                        clear n0_ n1_ n2_ n3_
                        refine start_ (n := 22) (S := fun w' => w'.cell? ⟨gb188, 0, none⟩ = some (.int .i64 t182) ∧ w'.cell? ⟨gb188, 1, none⟩ = some (.int .u64 t183) ∧ w'.cell? ⟨gb188, 2, none⟩ = some (.string t184) ∧ w'.cell? ⟨gb188, 3, none⟩ = some (.slice Ao37 t185.length co37)) (ds := []) #[false, false, false, false, false, false, false, false, false, false, false, false, false, false, false, false, false, false, false, false, false, false] (by kernel_rfl) rfl rfl ⟨(blk_cell BK188.out 0).trans rfl, (blk_cell BK188.out 1).trans rfl, (blk_cell BK188.out 2).trans rfl, (blk_cell BK188.out 3).trans rfl⟩ (fun hHeld => ?_); refine with_tabW minstrellaw07_CodeMakes.tab17 minstrellaw07_CodeMakes.bits17 (fun HT_ HW_ => ?_)
                        generalize wr.drew = w39 at HO_7 HO187 BK188 HB hHeld ⊢
                        refine pure_ (i := 1) (N := some 68) (v := ?_) (a' := ?_) #[false, true, false, false, false, false, false, false, false, false, false, false, false, false, false, false, false, false, false, false, false, false] rfl rfl (any_of HT_.out (by kernel_rfl)) (fun _ _ _ h => h) (Or.inl ⟨by rfl, ?_⟩) ?_ ?_
                        rotate_left
                        · intro w'
                          go_simp
                          with_reducible rfl
                        rotate_left
                        · simp only [Act.put, List.setIfInBounds_toArray, List.set_cons_zero, List.set_cons_succ, i64_w, i32_w]
                          rfl
                        refine take_ (i := 0) (N := some 67) (v := ?_) (a' := ?_) #[true, true, false, false, false, false, false, false, false, false, false, false, false, false, false, false, false, false, false, false, false, false] rfl rfl (take_ofW HT_.out HW_.out (by kernel_rfl)) (fun _ _ _ h => h) (Or.inl ⟨by rfl, ?_⟩) hHeld ?_ ?_
                        rotate_left
                        · rintro w' ⟨s0, s1, s2, s3⟩
                          go_simp
                          with_reducible rfl
                        rotate_left
                        · simp only [Act.put, List.setIfInBounds_toArray, List.set_cons_zero, List.set_cons_succ, i64_w, i32_w]
                          rfl
                        refine one_ (i := 2) (N := some 69) #[true, true, true, false, false, false, false, false, false, false, false, false, false, false, false, false, false, false, false, false, false, false] rfl rfl (one_of HT_.out (by kernel_rfl)) (by decide) (fun K hK => ?_)
                        refine goes_ Try.func16 (by kernel_rfl) rfl #[.slice A2 l2.length c2] (by rfl) rfl rfl (by (try simp only [List.map_toArray, List.map_cons, List.map_nil]); first | done | rfl | (simp only [List.length_drop, List.length_take]; rfl)) ?_
                        with_reducible refine (minstrelref07_List.calls (fun k_ => k_ < w.heap.size) _ _ l2 t189 t190 t191 t192 _ ?side1 A21.out).mono ?_
                        (case side1 => exact Kd.V_mk HC2.out (Kd.F_below (Kd.C_F k26_heap HR2.out) (by repeat (first | (with_reducible first | exact HB.out | apply below_alloc | apply pw_below_drewN | apply below_drew1 | refine below_set ?_ GE188.out) | exact HB.out))))
                        rintro e w40 ⟨v193, rfl, ho0, hb⟩
                        refine ⟨_, rfl, ?_⟩
                        have n0_ := Aside0.mk (Kd.R_below (by (with_reducible repeat (first | apply Kd.R_alloc | apply Kd.R_drewN | apply Kd.R_drew)); exact HO_7.out) hb)
                        have n1_ := Aside0.mk (Kd.R_below (by (with_reducible repeat (first | apply Kd.R_alloc | apply Kd.R_drewN | apply Kd.R_drew)); exact HO187.out) hb)
                        have n2_ := Aside0.mk (Kd.V_lower (Kd.V_mono (ok' := fun k_ => some k_ ≠ (.slice none 0 0 : Value).ownBlock ∧ some k_ ≠ (.slice Ao37 t185.length co37 : Value).ownBlock ∧ k_ ≠ gb188) ho0 (fun k_ hk_ => ⟨Or.elim hk_ (fun hs_ => fun e_ => Nat.not_le.2 hs_ (Kd.R_base HO_7.out k_ e_.symm)) (fun hn_ => (Kd.fresh' (Kd.R_lt (by (with_reducible repeat (first | apply Kd.R_alloc | apply Kd.R_drewN | apply Kd.R_drew)); exact HO_7.out)) k_ hn_)), Or.elim hk_ (fun hs_ => fun e_ => Nat.not_le.2 hs_ (Kd.R_base HO187.out k_ e_.symm)) (fun hn_ => (Kd.fresh' (Kd.R_lt (by (with_reducible repeat (first | apply Kd.R_alloc | apply Kd.R_drewN | apply Kd.R_drew)); exact HO187.out)) k_ hn_)), Or.elim hk_ (fun hs_ => fun e_ => Nat.not_le.2 hs_ (by rw [e_]; exact GW188.out)) (fun hn_ => (Kd.freshB (g := gb188) (o := .cells #[.int .i64 t182, .int .u64 t183, .string t184, .slice Ao37 t185.length co37] 26 (0, 0)) (by (with_reducible repeat (first | refine blk_drewN ?_ _ | refine blk_drew ?_ | refine blk_alloc ?_ _)); exact BK188.out) k_ hn_))⟩)) (below_size (by repeat (first | (with_reducible first | exact HB.out | apply below_alloc | apply pw_below_drewN | apply below_drew1 | refine below_set ?_ GE188.out) | exact HB.out))))
                        have n3_ := Aside0.mk (blk_below (g := gb188) (o := .cells #[.int .i64 t182, .int .u64 t183, .string t184, .slice Ao37 t185.length co37] 26 (0, 0)) (by (with_reducible repeat (first | refine blk_drewN ?_ _ | refine blk_drew ?_ | refine blk_alloc ?_ _)); exact BK188.out) hb)
                        have n4_ := Aside0.mk (below_step (by repeat (first | (with_reducible first | exact HB.out | apply below_alloc | apply pw_below_drewN | apply below_drew1 | refine below_set ?_ GE188.out) | exact HB.out)) hb)
                        clear HO_7
                        clear HO187
                        clear BK188
                        clear HB
                        have HO_7 := n0_
                        have HO187 := n1_
                        have HO194 := n2_
                        have BK188 := n3_
                        have HB := n4_
                        clear n0_ n1_ n2_ n3_ n4_
                        (try clear hb)
                        (try clear hb2)
                        (try clear hk)
                        (try clear hi)
                        (try clear ho0)
                        obtain ⟨Ao41, co41, eo41⟩ := Kd.V_slice HO194.out
                        (first | subst eo41 | (injection eo41 with f1_ f2_ f3_; have f4_ := f1_.symm; have f5_ := f3_.symm; clear f1_ f2_ f3_; subst f4_; subst f5_))
                        refine hK.out _ _ ⟨(blk_cell BK188.out 0).trans rfl, (blk_cell BK188.out 1).trans rfl, (blk_cell BK188.out 2).trans rfl, (blk_cell BK188.out 3).trans rfl⟩ (fun hHeld => ?_)
                        clear hK K
                        refine norm_ (a' := ?_) ?_ ?_
                        rotate_left
                        · show Act.put _ (some 69) _ = _
                          simp only [Act.put, List.setIfInBounds_toArray, List.set_cons_zero, List.set_cons_succ, i64_w, i32_w]
                          rfl
                        refine one_ (i := 3) (N := some 70) #[true, true, true, true, false, false, false, false, false, false, false, false, false, false, false, false, false, false, false, false, false, false] rfl rfl (one_of HT_.out (by kernel_rfl)) (by decide) (fun K hK => ?_)
                        refine goes_ Try.func10 (by kernel_rfl) rfl #[.agg #[.int .i64 t182, .int .u64 t183, .string t184, .slice Ao37 t185.length co37], .agg #[.int .i64 t189, .int .u64 t190, .string t191, .slice Ao41 t192.length co41]] (by rfl) rfl rfl (by (try simp only [List.map_toArray, List.map_cons, List.map_nil]); first | done | rfl | (simp only [List.length_drop, List.length_take]; rfl)) ?_
                        with_reducible refine (minstrelref07_Same.calls k2 t182 t183 t184 _ _ t185 t189 t190 t191 _ _ t192 true _ ?side1 ?side2 ?side3 ?side4 A22.out).mono ?_
                        (case side1 => repeat (first | exact (Kd.R_reads' HO187.out).2.2 | (with_reducible refine Kd.C_alloc ?_ _) | (with_reducible refine Kd.C_drewN ?_ _) | (with_reducible refine Kd.C_drew ?_)))
                        (case side2 => exact (Kd.R_reads' HO187.out).2.1)
                        (case side3 => repeat (first | exact (Kd.V_reads' HO194.out).2.2 | (with_reducible refine Kd.C_alloc ?_ _) | (with_reducible refine Kd.C_drewN ?_ _) | (with_reducible refine Kd.C_drew ?_)))
                        (case side4 => exact (Kd.V_reads' HO194.out).2.1)
                        rintro e w42 ⟨rfl, hb⟩
                        refine ⟨_, rfl, ?_⟩
                        have n0_ := Aside0.mk (Kd.R_below (by (with_reducible repeat (first | apply Kd.R_alloc | apply Kd.R_drewN | apply Kd.R_drew)); exact HO_7.out) hb)
                        have n1_ := Aside0.mk (Kd.R_below (by (with_reducible repeat (first | apply Kd.R_alloc | apply Kd.R_drewN | apply Kd.R_drew)); exact HO187.out) hb)
                        have n2_ := Aside0.mk (Kd.V_below (by (with_reducible repeat (first | apply Kd.V_alloc | apply Kd.V_drewN | apply Kd.V_drew)); exact HO194.out) hb)
                        have n3_ := Aside0.mk (blk_below (g := gb188) (o := .cells #[.int .i64 t182, .int .u64 t183, .string t184, .slice Ao37 t185.length co37] 26 (0, 0)) (by (with_reducible repeat (first | refine blk_drewN ?_ _ | refine blk_drew ?_ | refine blk_alloc ?_ _)); exact BK188.out) hb)
                        have n4_ := Aside0.mk (below_step (by repeat (first | (with_reducible first | exact HB.out | apply below_alloc | apply pw_below_drewN | apply below_drew1 | refine below_set ?_ GE188.out) | exact HB.out)) hb)
                        clear HO_7
                        clear HO187
                        clear HO194
                        clear BK188
                        clear HB
                        have HO_7 := n0_
                        have HO187 := n1_
                        have HO194 := n2_
                        have BK188 := n3_
                        have HB := n4_
                        clear n0_ n1_ n2_ n3_ n4_
                        (try clear hb)
                        (try clear hb2)
                        (try clear hk)
                        (try clear hi)
                        refine hK.out _ _ ⟨(blk_cell BK188.out 0).trans rfl, (blk_cell BK188.out 1).trans rfl, (blk_cell BK188.out 2).trans rfl, (blk_cell BK188.out 3).trans rfl⟩ (fun hHeld => ?_)
                        clear hK K
                        refine norm_ (a' := ?_) ?_ ?_
                        rotate_left
                        · show Act.put _ (some 70) _ = _
                          simp only [Act.put, List.setIfInBounds_toArray, List.set_cons_zero, List.set_cons_succ, i64_w, i32_w]
                          rfl
                        refine pure_ (i := 4) (N := some 71) (v := ?_) (a' := ?_) #[true, true, true, true, true, false, false, false, false, false, false, false, false, false, false, false, false, false, false, false, false, false] rfl rfl (any_of HT_.out (by kernel_rfl)) (fun _ _ _ h => h) (Or.inl ⟨by rfl, ?_⟩) ?_ ?_
                        rotate_left
                        · intro w'
                          go_simp
                          with_reducible rfl
                        rotate_left
                        · simp only [Act.put, List.setIfInBounds_toArray, List.set_cons_zero, List.set_cons_succ, i64_w, i32_w]
                          rfl
                        refine pure_ (i := 5) (N := some 72) (v := ?_) (a' := ?_) #[true, true, true, true, true, true, false, false, false, false, false, false, false, false, false, false, false, false, false, false, false, false] rfl rfl (any_of HT_.out (by kernel_rfl)) (fun _ _ _ h => h) (Or.inl ⟨by rfl, ?_⟩) ?_ ?_
                        rotate_left
                        · intro w'
                          go_simp
                          with_reducible rfl
                        rotate_left
                        · simp only [Act.put, List.setIfInBounds_toArray, List.set_cons_zero, List.set_cons_succ, i64_w, i32_w]
                          rfl
                        refine pure_ (i := 7) (N := some 74) (v := ?_) (a' := ?_) #[true, true, true, true, true, true, false, true, false, false, false, false, false, false, false, false, false, false, false, false, false, false] rfl rfl (any_of HT_.out (by kernel_rfl)) (fun _ _ _ h => h) (Or.inl ⟨by rfl, ?_⟩) ?_ ?_
                        rotate_left
                        · intro w'
                          go_simp
                          with_reducible rfl
                        rotate_left
                        · simp only [Act.put, List.setIfInBounds_toArray, List.set_cons_zero, List.set_cons_succ, i64_w, i32_w]
                          rfl
                        refine one_ (i := 6) (N := some 73) #[true, true, true, true, true, true, true, true, false, false, false, false, false, false, false, false, false, false, false, false, false, false] rfl rfl (one_of HT_.out (by kernel_rfl)) (by decide) (fun K hK => ?_)
                        refine goes_ Try.func17 (by kernel_rfl) rfl #[.int .u64 a0] (by rfl) rfl rfl (by (try simp only [List.map_toArray, List.map_cons, List.map_nil]); first | done | rfl | (simp only [List.length_drop, List.length_take]; rfl)) ?_
                        with_reducible refine (code_Number.calls a0 t196 t197 t198 t199 _ A24.out).mono ?_
                        rintro e w43 ⟨v200, rfl, ho0, hb⟩
                        refine ⟨_, rfl, ?_⟩
                        have n0_ := Aside0.mk (Kd.R_elder' (by (with_reducible repeat (first | apply Kd.R_alloc | apply Kd.R_drewN | apply Kd.R_drew)); exact HO_7.out) (Kd.R_base ho0) hb)
                        have n1_ := Aside0.mk (Kd.R_elder' (by (with_reducible repeat (first | apply Kd.R_alloc | apply Kd.R_drewN | apply Kd.R_drew)); exact HO187.out) (Kd.R_base ho0) hb)
                        have n2_ := Aside0.mk (Kd.V_elder' (by (with_reducible repeat (first | apply Kd.V_alloc | apply Kd.V_drewN | apply Kd.V_drew)); exact HO194.out) (Kd.R_base ho0) hb)
                        have n3_ := Aside0.mk (Kd.R_lower (Kd.R_newB (Kd.R_new' (Kd.R_new' ho0 (Kd.R_lt (by (with_reducible repeat (first | apply Kd.R_alloc | apply Kd.R_drewN | apply Kd.R_drew)); exact HO_7.out))) (Kd.R_lt (by (with_reducible repeat (first | apply Kd.R_alloc | apply Kd.R_drewN | apply Kd.R_drew)); exact HO187.out))) (g := gb188) (o := .cells #[.int .i64 t182, .int .u64 t183, .string t184, .slice Ao37 t185.length co37] 26 (0, 0)) (by (with_reducible repeat (first | refine blk_drewN ?_ _ | refine blk_drew ?_ | refine blk_alloc ?_ _)); exact BK188.out)) (below_size (by repeat (first | (with_reducible first | exact HB.out | apply below_alloc | apply pw_below_drewN | apply below_drew1 | refine below_set ?_ GE188.out) | exact HB.out))))
                        have n4_ := Aside0.mk (blk_below (g := gb188) (o := .cells #[.int .i64 t182, .int .u64 t183, .string t184, .slice Ao37 t185.length co37] 26 (0, 0)) (by (with_reducible repeat (first | refine blk_drewN ?_ _ | refine blk_drew ?_ | refine blk_alloc ?_ _)); exact BK188.out) hb)
                        have n5_ := Aside0.mk (below_step (by repeat (first | (with_reducible first | exact HB.out | apply below_alloc | apply pw_below_drewN | apply below_drew1 | refine below_set ?_ GE188.out) | exact HB.out)) hb)
                        clear HO_7
                        clear HO187
                        clear HO194
                        clear BK188
                        clear HB
                        have HO_7 := n0_
                        have HO187 := n1_
                        have HO194 := n2_
                        have HO201 := n3_
                        have BK188 := n4_
                        have HB := n5_
                        clear n0_ n1_ n2_ n3_ n4_ n5_
                        (try clear hb)
                        (try clear hb2)
                        (try clear hk)
                        (try clear hi)
                        (try clear ho0)
                        refine hK.out _ _ ⟨(blk_cell BK188.out 0).trans rfl, (blk_cell BK188.out 1).trans rfl, (blk_cell BK188.out 2).trans rfl, (blk_cell BK188.out 3).trans rfl⟩ (fun hHeld => ?_)
                        clear hK K
                        refine norm_ (a' := ?_) ?_ ?_
                        rotate_left
                        · show Act.put _ (some 73) _ = _
                          simp only [Act.put, List.setIfInBounds_toArray, List.set_cons_zero, List.set_cons_succ, i64_w, i32_w]
                          rfl
                        refine one_ (i := 8) (N := some 75) #[true, true, true, true, true, true, true, true, true, false, false, false, false, false, false, false, false, false, false, false, false, false] rfl rfl (one_of HT_.out (by kernel_rfl)) (by decide) (fun K hK => ?_)
                        refine goes_ Try.func18 (by kernel_rfl) rfl #[.int .u64 a0] (by rfl) rfl rfl (by (try simp only [List.map_toArray, List.map_cons, List.map_nil]); first | done | rfl | (simp only [List.length_drop, List.length_take]; rfl)) ?_
                        with_reducible refine (minstrelref07_Number.calls a0 t202 t203 t204 t205 _ A25.out).mono ?_
                        rintro e w44 ⟨v206, rfl, ho0, hb⟩
                        refine ⟨_, rfl, ?_⟩
                        have n0_ := Aside0.mk (Kd.R_elder' (by (with_reducible repeat (first | apply Kd.R_alloc | apply Kd.R_drewN | apply Kd.R_drew)); exact HO_7.out) (Kd.R_base ho0) hb)
                        have n1_ := Aside0.mk (Kd.R_elder' (by (with_reducible repeat (first | apply Kd.R_alloc | apply Kd.R_drewN | apply Kd.R_drew)); exact HO187.out) (Kd.R_base ho0) hb)
                        have n2_ := Aside0.mk (Kd.V_elder' (by (with_reducible repeat (first | apply Kd.V_alloc | apply Kd.V_drewN | apply Kd.V_drew)); exact HO194.out) (Kd.R_base ho0) hb)
                        have n3_ := Aside0.mk (Kd.R_elder' (by (with_reducible repeat (first | apply Kd.R_alloc | apply Kd.R_drewN | apply Kd.R_drew)); exact HO201.out) (Kd.R_base ho0) hb)
                        have n4_ := Aside0.mk (Kd.R_lower (Kd.R_newB (Kd.R_new' (Kd.R_new' (Kd.R_new' ho0 (Kd.R_lt (by (with_reducible repeat (first | apply Kd.R_alloc | apply Kd.R_drewN | apply Kd.R_drew)); exact HO_7.out))) (Kd.R_lt (by (with_reducible repeat (first | apply Kd.R_alloc | apply Kd.R_drewN | apply Kd.R_drew)); exact HO187.out))) (Kd.R_lt (by (with_reducible repeat (first | apply Kd.R_alloc | apply Kd.R_drewN | apply Kd.R_drew)); exact HO201.out))) (g := gb188) (o := .cells #[.int .i64 t182, .int .u64 t183, .string t184, .slice Ao37 t185.length co37] 26 (0, 0)) (by (with_reducible repeat (first | refine blk_drewN ?_ _ | refine blk_drew ?_ | refine blk_alloc ?_ _)); exact BK188.out)) (below_size (by repeat (first | (with_reducible first | exact HB.out | apply below_alloc | apply pw_below_drewN | apply below_drew1 | refine below_set ?_ GE188.out) | exact HB.out))))
                        have n5_ := Aside0.mk (blk_below (g := gb188) (o := .cells #[.int .i64 t182, .int .u64 t183, .string t184, .slice Ao37 t185.length co37] 26 (0, 0)) (by (with_reducible repeat (first | refine blk_drewN ?_ _ | refine blk_drew ?_ | refine blk_alloc ?_ _)); exact BK188.out) hb)
                        have n6_ := Aside0.mk (below_step (by repeat (first | (with_reducible first | exact HB.out | apply below_alloc | apply pw_below_drewN | apply below_drew1 | refine below_set ?_ GE188.out) | exact HB.out)) hb)
                        clear HO_7
                        clear HO187
                        clear HO194
                        clear HO201
                        clear BK188
                        clear HB
                        have HO_7 := n0_
                        have HO187 := n1_
                        have HO194 := n2_
                        have HO201 := n3_
                        have HO207 := n4_
                        have BK188 := n5_
                        have HB := n6_
                        clear n0_ n1_ n2_ n3_ n4_ n5_ n6_
                        (try clear hb)
                        (try clear hb2)
                        (try clear hk)
                        (try clear hi)
                        (try clear ho0)
                        obtain ⟨Ao45, co45, eo45⟩ := Kd.R_slice HO201.out
                        (first | subst eo45 | (injection eo45 with f1_ f2_ f3_; have f4_ := f1_.symm; have f5_ := f3_.symm; clear f1_ f2_ f3_; subst f4_; subst f5_))
                        obtain ⟨Ao46, co46, eo46⟩ := Kd.R_slice HO207.out
                        (first | subst eo46 | (injection eo46 with f1_ f2_ f3_; have f4_ := f1_.symm; have f5_ := f3_.symm; clear f1_ f2_ f3_; subst f4_; subst f5_))
                        refine hK.out _ _ ⟨(blk_cell BK188.out 0).trans rfl, (blk_cell BK188.out 1).trans rfl, (blk_cell BK188.out 2).trans rfl, (blk_cell BK188.out 3).trans rfl⟩ (fun hHeld => ?_)
                        clear hK K
                        refine norm_ (a' := ?_) ?_ ?_
                        rotate_left
                        · show Act.put _ (some 75) _ = _
                          simp only [Act.put, List.setIfInBounds_toArray, List.set_cons_zero, List.set_cons_succ, i64_w, i32_w]
                          rfl
                        refine one_ (i := 9) (N := some 76) #[true, true, true, true, true, true, true, true, true, true, false, false, false, false, false, false, false, false, false, false, false, false] rfl rfl (one_of HT_.out (by kernel_rfl)) (by decide) (fun K hK => ?_)
                        refine goes_ Try.func10 (by kernel_rfl) rfl #[.agg #[.int .i64 t196, .int .u64 t197, .string t198, .slice Ao45 t199.length co45], .agg #[.int .i64 t202, .int .u64 t203, .string t204, .slice Ao46 t205.length co46]] (by rfl) rfl rfl (by (try simp only [List.map_toArray, List.map_cons, List.map_nil]); first | done | rfl | (simp only [List.length_drop, List.length_take]; rfl)) ?_
                        with_reducible refine (minstrelref07_Same.calls k2 t196 t197 t198 _ _ t199 t202 t203 t204 _ _ t205 true _ ?side1 ?side2 ?side3 ?side4 A26.out).mono ?_
                        (case side1 => repeat (first | exact (Kd.R_reads' HO201.out).2.2 | (with_reducible refine Kd.C_alloc ?_ _) | (with_reducible refine Kd.C_drewN ?_ _) | (with_reducible refine Kd.C_drew ?_)))
                        (case side2 => exact (Kd.R_reads' HO201.out).2.1)
                        (case side3 => repeat (first | exact (Kd.R_reads' HO207.out).2.2 | (with_reducible refine Kd.C_alloc ?_ _) | (with_reducible refine Kd.C_drewN ?_ _) | (with_reducible refine Kd.C_drew ?_)))
                        (case side4 => exact (Kd.R_reads' HO207.out).2.1)
                        rintro e w47 ⟨rfl, hb⟩
                        refine ⟨_, rfl, ?_⟩
                        have n0_ := Aside0.mk (Kd.R_below (by (with_reducible repeat (first | apply Kd.R_alloc | apply Kd.R_drewN | apply Kd.R_drew)); exact HO_7.out) hb)
                        have n1_ := Aside0.mk (Kd.R_below (by (with_reducible repeat (first | apply Kd.R_alloc | apply Kd.R_drewN | apply Kd.R_drew)); exact HO187.out) hb)
                        have n2_ := Aside0.mk (Kd.V_below (by (with_reducible repeat (first | apply Kd.V_alloc | apply Kd.V_drewN | apply Kd.V_drew)); exact HO194.out) hb)
                        have n3_ := Aside0.mk (Kd.R_below (by (with_reducible repeat (first | apply Kd.R_alloc | apply Kd.R_drewN | apply Kd.R_drew)); exact HO201.out) hb)
                        have n4_ := Aside0.mk (Kd.R_below (by (with_reducible repeat (first | apply Kd.R_alloc | apply Kd.R_drewN | apply Kd.R_drew)); exact HO207.out) hb)
                        have n5_ := Aside0.mk (blk_below (g := gb188) (o := .cells #[.int .i64 t182, .int .u64 t183, .string t184, .slice Ao37 t185.length co37] 26 (0, 0)) (by (with_reducible repeat (first | refine blk_drewN ?_ _ | refine blk_drew ?_ | refine blk_alloc ?_ _)); exact BK188.out) hb)
                        have n6_ := Aside0.mk (below_step (by repeat (first | (with_reducible first | exact HB.out | apply below_alloc | apply pw_below_drewN | apply below_drew1 | refine below_set ?_ GE188.out) | exact HB.out)) hb)
                        clear HO_7
                        clear HO187
                        clear HO194
                        clear HO201
                        clear HO207
                        clear BK188
                        clear HB
                        have HO_7 := n0_
                        have HO187 := n1_
                        have HO194 := n2_
                        have HO201 := n3_
                        have HO207 := n4_
                        have BK188 := n5_
                        have HB := n6_
                        clear n0_ n1_ n2_ n3_ n4_ n5_ n6_
                        (try clear hb)
                        (try clear hb2)
                        (try clear hk)
                        (try clear hi)
                        refine hK.out _ _ ⟨(blk_cell BK188.out 0).trans rfl, (blk_cell BK188.out 1).trans rfl, (blk_cell BK188.out 2).trans rfl, (blk_cell BK188.out 3).trans rfl⟩ (fun hHeld => ?_)
                        clear hK K
                        refine norm_ (a' := ?_) ?_ ?_
                        rotate_left
                        · show Act.put _ (some 76) _ = _
                          simp only [Act.put, List.setIfInBounds_toArray, List.set_cons_zero, List.set_cons_succ, i64_w, i32_w]
                          rfl
                        refine pure_ (i := 10) (N := some 77) (v := ?_) (a' := ?_) #[true, true, true, true, true, true, true, true, true, true, true, false, false, false, false, false, false, false, false, false, false, false] rfl rfl (any_of HT_.out (by kernel_rfl)) (fun _ _ _ h => h) (Or.inl ⟨by rfl, ?_⟩) ?_ ?_
                        rotate_left
                        · intro w'
                          go_simp
                          with_reducible rfl
                        rotate_left
                        · simp only [Act.put, List.setIfInBounds_toArray, List.set_cons_zero, List.set_cons_succ, i64_w, i32_w]
                          rfl
                        refine pure_ (i := 11) (N := some 78) (v := ?_) (a' := ?_) #[true, true, true, true, true, true, true, true, true, true, true, true, false, false, false, false, false, false, false, false, false, false] rfl rfl (any_of HT_.out (by kernel_rfl)) (fun _ _ _ h => h) (Or.inl ⟨by rfl, ?_⟩) ?_ ?_
                        rotate_left
                        · intro w'
                          go_simp
                          with_reducible rfl
                        rotate_left
                        · simp only [Act.put, List.setIfInBounds_toArray, List.set_cons_zero, List.set_cons_succ, i64_w, i32_w]
                          rfl
                        refine pure_ (i := 12) (N := some 79) (v := ?_) (a' := ?_) #[true, true, true, true, true, true, true, true, true, true, true, true, true, false, false, false, false, false, false, false, false, false] rfl rfl (any_of HT_.out (by kernel_rfl)) (fun _ _ _ h => h) (Or.inl ⟨by rfl, ?_⟩) ?_ ?_
                        rotate_left
                        · intro w'
                          go_simp
                          with_reducible rfl
                        rotate_left
                        · simp only [Act.put, List.setIfInBounds_toArray, List.set_cons_zero, List.set_cons_succ, i64_w, i32_w]
                          rfl
                        refine pure_ (i := 14) (N := some 81) (v := ?_) (a' := ?_) #[true, true, true, true, true, true, true, true, true, true, true, true, true, false, true, false, false, false, false, false, false, false] rfl rfl (any_of HT_.out (by kernel_rfl)) (fun _ _ _ h => h) (Or.inl ⟨by rfl, ?_⟩) ?_ ?_
                        rotate_left
                        · intro w'
                          go_simp
                          with_reducible rfl
                        rotate_left
                        · simp only [Act.put, List.setIfInBounds_toArray, List.set_cons_zero, List.set_cons_succ, i64_w, i32_w]
                          rfl
                        refine one_ (i := 13) (N := some 80) #[true, true, true, true, true, true, true, true, true, true, true, true, true, true, true, false, false, false, false, false, false, false] rfl rfl (one_of HT_.out (by kernel_rfl)) (by decide) (fun K hK => ?_)
                        refine goes_ Try.func19 (by kernel_rfl) rfl #[.string a1] (by rfl) rfl rfl (by (try simp only [List.map_toArray, List.map_cons, List.map_nil]); first | done | rfl | (simp only [List.length_drop, List.length_take]; rfl)) ?_
                        with_reducible refine (code_Text.calls a1 t209 t210 t211 t212 _ A28.out).mono ?_
                        rintro e w48 ⟨v213, rfl, ho0, hb⟩
                        refine ⟨_, rfl, ?_⟩
                        have n0_ := Aside0.mk (Kd.R_elder' (by (with_reducible repeat (first | apply Kd.R_alloc | apply Kd.R_drewN | apply Kd.R_drew)); exact HO_7.out) (Kd.R_base ho0) hb)
                        have n1_ := Aside0.mk (Kd.R_elder' (by (with_reducible repeat (first | apply Kd.R_alloc | apply Kd.R_drewN | apply Kd.R_drew)); exact HO187.out) (Kd.R_base ho0) hb)
                        have n2_ := Aside0.mk (Kd.V_elder' (by (with_reducible repeat (first | apply Kd.V_alloc | apply Kd.V_drewN | apply Kd.V_drew)); exact HO194.out) (Kd.R_base ho0) hb)
                        have n3_ := Aside0.mk (Kd.R_elder' (by (with_reducible repeat (first | apply Kd.R_alloc | apply Kd.R_drewN | apply Kd.R_drew)); exact HO201.out) (Kd.R_base ho0) hb)
                        have n4_ := Aside0.mk (Kd.R_elder' (by (with_reducible repeat (first | apply Kd.R_alloc | apply Kd.R_drewN | apply Kd.R_drew)); exact HO207.out) (Kd.R_base ho0) hb)
                        have n5_ := Aside0.mk (Kd.R_lower (Kd.R_newB (Kd.R_new' (Kd.R_new' (Kd.R_new' (Kd.R_new' ho0 (Kd.R_lt (by (with_reducible repeat (first | apply Kd.R_alloc | apply Kd.R_drewN | apply Kd.R_drew)); exact HO_7.out))) (Kd.R_lt (by (with_reducible repeat (first | apply Kd.R_alloc | apply Kd.R_drewN | apply Kd.R_drew)); exact HO187.out))) (Kd.R_lt (by (with_reducible repeat (first | apply Kd.R_alloc | apply Kd.R_drewN | apply Kd.R_drew)); exact HO201.out))) (Kd.R_lt (by (with_reducible repeat (first | apply Kd.R_alloc | apply Kd.R_drewN | apply Kd.R_drew)); exact HO207.out))) (g := gb188) (o := .cells #[.int .i64 t182, .int .u64 t183, .string t184, .slice Ao37 t185.length co37] 26 (0, 0)) (by (with_reducible repeat (first | refine blk_drewN ?_ _ | refine blk_drew ?_ | refine blk_alloc ?_ _)); exact BK188.out)) (below_size (by repeat (first | (with_reducible first | exact HB.out | apply below_alloc | apply pw_below_drewN | apply below_drew1 | refine below_set ?_ GE188.out) | exact HB.out))))
                        have n6_ := Aside0.mk (blk_below (g := gb188) (o := .cells #[.int .i64 t182, .int .u64 t183, .string t184, .slice Ao37 t185.length co37] 26 (0, 0)) (by (with_reducible repeat (first | refine blk_drewN ?_ _ | refine blk_drew ?_ | refine blk_alloc ?_ _)); exact BK188.out) hb)
                        have n7_ := Aside0.mk (below_step (by repeat (first | (with_reducible first | exact HB.out | apply below_alloc | apply pw_below_drewN | apply below_drew1 | refine below_set ?_ GE188.out) | exact HB.out)) hb)
                        clear HO_7
                        clear HO187
                        clear HO194
                        clear HO201
                        clear HO207
                        clear BK188
                        clear HB
                        have HO_7 := n0_
                        have HO187 := n1_
                        have HO194 := n2_
                        have HO201 := n3_
                        have HO207 := n4_
                        have HO214 := n5_
                        have BK188 := n6_
                        have HB := n7_
                        clear n0_ n1_ n2_ n3_ n4_ n5_ n6_ n7_
                        (try clear hb)
                        (try clear hb2)
                        (try clear hk)
                        (try clear hi)
                        (try clear ho0)
                        refine hK.out _ _ ⟨(blk_cell BK188.out 0).trans rfl, (blk_cell BK188.out 1).trans rfl, (blk_cell BK188.out 2).trans rfl, (blk_cell BK188.out 3).trans rfl⟩ (fun hHeld => ?_)
                        clear hK K
                        refine norm_ (a' := ?_) ?_ ?_
                        rotate_left
                        · show Act.put _ (some 80) _ = _
                          simp only [Act.put, List.setIfInBounds_toArray, List.set_cons_zero, List.set_cons_succ, i64_w, i32_w]
                          rfl
                        refine one_ (i := 15) (N := some 82) #[true, true, true, true, true, true, true, true, true, true, true, true, true, true, true, true, false, false, false, false, false, false] rfl rfl (one_of HT_.out (by kernel_rfl)) (by decide) (fun K hK => ?_)
                        refine goes_ Try.func20 (by kernel_rfl) rfl #[.string a1] (by rfl) rfl rfl (by (try simp only [List.map_toArray, List.map_cons, List.map_nil]); first | done | rfl | (simp only [List.length_drop, List.length_take]; rfl)) ?_
                        with_reducible refine (minstrelref07_Text.calls a1 t215 t216 t217 t218 _ A29.out).mono ?_
                        rintro e w49 ⟨v219, rfl, ho0, hb⟩
                        refine ⟨_, rfl, ?_⟩
                        have n0_ := Aside0.mk (Kd.R_elder' (by (with_reducible repeat (first | apply Kd.R_alloc | apply Kd.R_drewN | apply Kd.R_drew)); exact HO_7.out) (Kd.R_base ho0) hb)
                        have n1_ := Aside0.mk (Kd.R_elder' (by (with_reducible repeat (first | apply Kd.R_alloc | apply Kd.R_drewN | apply Kd.R_drew)); exact HO187.out) (Kd.R_base ho0) hb)
                        have n2_ := Aside0.mk (Kd.V_elder' (by (with_reducible repeat (first | apply Kd.V_alloc | apply Kd.V_drewN | apply Kd.V_drew)); exact HO194.out) (Kd.R_base ho0) hb)
                        have n3_ := Aside0.mk (Kd.R_elder' (by (with_reducible repeat (first | apply Kd.R_alloc | apply Kd.R_drewN | apply Kd.R_drew)); exact HO201.out) (Kd.R_base ho0) hb)
                        have n4_ := Aside0.mk (Kd.R_elder' (by (with_reducible repeat (first | apply Kd.R_alloc | apply Kd.R_drewN | apply Kd.R_drew)); exact HO207.out) (Kd.R_base ho0) hb)
                        have n5_ := Aside0.mk (Kd.R_elder' (by (with_reducible repeat (first | apply Kd.R_alloc | apply Kd.R_drewN | apply Kd.R_drew)); exact HO214.out) (Kd.R_base ho0) hb)
                        have n6_ := Aside0.mk (Kd.R_lower (Kd.R_newB (Kd.R_new' (Kd.R_new' (Kd.R_new' (Kd.R_new' (Kd.R_new' ho0 (Kd.R_lt (by (with_reducible repeat (first | apply Kd.R_alloc | apply Kd.R_drewN | apply Kd.R_drew)); exact HO_7.out))) (Kd.R_lt (by (with_reducible repeat (first | apply Kd.R_alloc | apply Kd.R_drewN | apply Kd.R_drew)); exact HO187.out))) (Kd.R_lt (by (with_reducible repeat (first | apply Kd.R_alloc | apply Kd.R_drewN | apply Kd.R_drew)); exact HO201.out))) (Kd.R_lt (by (with_reducible repeat (first | apply Kd.R_alloc | apply Kd.R_drewN | apply Kd.R_drew)); exact HO207.out))) (Kd.R_lt (by (with_reducible repeat (first | apply Kd.R_alloc | apply Kd.R_drewN | apply Kd.R_drew)); exact HO214.out))) (g := gb188) (o := .cells #[.int .i64 t182, .int .u64 t183, .string t184, .slice Ao37 t185.length co37] 26 (0, 0)) (by (with_reducible repeat (first | refine blk_drewN ?_ _ | refine blk_drew ?_ | refine blk_alloc ?_ _)); exact BK188.out)) (below_size (by repeat (first | (with_reducible first | exact HB.out | apply below_alloc | apply pw_below_drewN | apply below_drew1 | refine below_set ?_ GE188.out) | exact HB.out))))
                        have n7_ := Aside0.mk (blk_below (g := gb188) (o := .cells #[.int .i64 t182, .int .u64 t183, .string t184, .slice Ao37 t185.length co37] 26 (0, 0)) (by (with_reducible repeat (first | refine blk_drewN ?_ _ | refine blk_drew ?_ | refine blk_alloc ?_ _)); exact BK188.out) hb)
                        have n8_ := Aside0.mk (below_step (by repeat (first | (with_reducible first | exact HB.out | apply below_alloc | apply pw_below_drewN | apply below_drew1 | refine below_set ?_ GE188.out) | exact HB.out)) hb)
                        clear HO_7
                        clear HO187
                        clear HO194
                        clear HO201
                        clear HO207
                        clear HO214
                        clear BK188
                        clear HB
                        have HO_7 := n0_
                        have HO187 := n1_
                        have HO194 := n2_
                        have HO201 := n3_
                        have HO207 := n4_
                        have HO214 := n5_
                        have HO220 := n6_
                        have BK188 := n7_
                        have HB := n8_
                        clear n0_ n1_ n2_ n3_ n4_ n5_ n6_ n7_ n8_
                        (try clear hb)
                        (try clear hb2)
                        (try clear hk)
                        (try clear hi)
                        (try clear ho0)
                        obtain ⟨Ao50, co50, eo50⟩ := Kd.R_slice HO214.out
                        (first | subst eo50 | (injection eo50 with f1_ f2_ f3_; have f4_ := f1_.symm; have f5_ := f3_.symm; clear f1_ f2_ f3_; subst f4_; subst f5_))
                        obtain ⟨Ao51, co51, eo51⟩ := Kd.R_slice HO220.out
                        (first | subst eo51 | (injection eo51 with f1_ f2_ f3_; have f4_ := f1_.symm; have f5_ := f3_.symm; clear f1_ f2_ f3_; subst f4_; subst f5_))
                        refine hK.out _ _ ⟨(blk_cell BK188.out 0).trans rfl, (blk_cell BK188.out 1).trans rfl, (blk_cell BK188.out 2).trans rfl, (blk_cell BK188.out 3).trans rfl⟩ (fun hHeld => ?_)
                        clear hK K
                        refine norm_ (a' := ?_) ?_ ?_
                        rotate_left
                        · show Act.put _ (some 82) _ = _
                          simp only [Act.put, List.setIfInBounds_toArray, List.set_cons_zero, List.set_cons_succ, i64_w, i32_w]
                          rfl
                        refine one_ (i := 16) (N := some 83) #[true, true, true, true, true, true, true, true, true, true, true, true, true, true, true, true, true, false, false, false, false, false] rfl rfl (one_of HT_.out (by kernel_rfl)) (by decide) (fun K hK => ?_)
                        refine goes_ Try.func10 (by kernel_rfl) rfl #[.agg #[.int .i64 t209, .int .u64 t210, .string t211, .slice Ao50 t212.length co50], .agg #[.int .i64 t215, .int .u64 t216, .string t217, .slice Ao51 t218.length co51]] (by rfl) rfl rfl (by (try simp only [List.map_toArray, List.map_cons, List.map_nil]); first | done | rfl | (simp only [List.length_drop, List.length_take]; rfl)) ?_
                        with_reducible refine (minstrelref07_Same.calls k2 t209 t210 t211 _ _ t212 t215 t216 t217 _ _ t218 true _ ?side1 ?side2 ?side3 ?side4 A30.out).mono ?_
                        (case side1 => repeat (first | exact (Kd.R_reads' HO214.out).2.2 | (with_reducible refine Kd.C_alloc ?_ _) | (with_reducible refine Kd.C_drewN ?_ _) | (with_reducible refine Kd.C_drew ?_)))
                        (case side2 => exact (Kd.R_reads' HO214.out).2.1)
                        (case side3 => repeat (first | exact (Kd.R_reads' HO220.out).2.2 | (with_reducible refine Kd.C_alloc ?_ _) | (with_reducible refine Kd.C_drewN ?_ _) | (with_reducible refine Kd.C_drew ?_)))
                        (case side4 => exact (Kd.R_reads' HO220.out).2.1)
                        rintro e w52 ⟨rfl, hb⟩
                        refine ⟨_, rfl, ?_⟩
                        have n0_ := Aside0.mk (Kd.R_below (by (with_reducible repeat (first | apply Kd.R_alloc | apply Kd.R_drewN | apply Kd.R_drew)); exact HO_7.out) hb)
                        have n1_ := Aside0.mk (Kd.R_below (by (with_reducible repeat (first | apply Kd.R_alloc | apply Kd.R_drewN | apply Kd.R_drew)); exact HO187.out) hb)
                        have n2_ := Aside0.mk (Kd.V_below (by (with_reducible repeat (first | apply Kd.V_alloc | apply Kd.V_drewN | apply Kd.V_drew)); exact HO194.out) hb)
                        have n3_ := Aside0.mk (Kd.R_below (by (with_reducible repeat (first | apply Kd.R_alloc | apply Kd.R_drewN | apply Kd.R_drew)); exact HO201.out) hb)
                        have n4_ := Aside0.mk (Kd.R_below (by (with_reducible repeat (first | apply Kd.R_alloc | apply Kd.R_drewN | apply Kd.R_drew)); exact HO207.out) hb)
                        have n5_ := Aside0.mk (Kd.R_below (by (with_reducible repeat (first | apply Kd.R_alloc | apply Kd.R_drewN | apply Kd.R_drew)); exact HO214.out) hb)
                        have n6_ := Aside0.mk (Kd.R_below (by (with_reducible repeat (first | apply Kd.R_alloc | apply Kd.R_drewN | apply Kd.R_drew)); exact HO220.out) hb)
                        have n7_ := Aside0.mk (blk_below (g := gb188) (o := .cells #[.int .i64 t182, .int .u64 t183, .string t184, .slice Ao37 t185.length co37] 26 (0, 0)) (by (with_reducible repeat (first | refine blk_drewN ?_ _ | refine blk_drew ?_ | refine blk_alloc ?_ _)); exact BK188.out) hb)
                        have n8_ := Aside0.mk (below_step (by repeat (first | (with_reducible first | exact HB.out | apply below_alloc | apply pw_below_drewN | apply below_drew1 | refine below_set ?_ GE188.out) | exact HB.out)) hb)
                        clear HO_7
                        clear HO187
                        clear HO194
                        clear HO201
                        clear HO207
                        clear HO214
                        clear HO220
                        clear BK188
                        clear HB
                        have HO_7 := n0_
                        have HO187 := n1_
                        have HO194 := n2_
                        have HO201 := n3_
                        have HO207 := n4_
                        have HO214 := n5_
                        have HO220 := n6_
                        have BK188 := n7_
                        have HB := n8_
                        clear n0_ n1_ n2_ n3_ n4_ n5_ n6_ n7_ n8_
                        (try clear hb)
                        (try clear hb2)
                        (try clear hk)
                        (try clear hi)
                        refine hK.out _ _ ⟨(blk_cell BK188.out 0).trans rfl, (blk_cell BK188.out 1).trans rfl, (blk_cell BK188.out 2).trans rfl, (blk_cell BK188.out 3).trans rfl⟩ (fun hHeld => ?_)
                        clear hK K
                        refine norm_ (a' := ?_) ?_ ?_
                        rotate_left
                        · show Act.put _ (some 83) _ = _
                          simp only [Act.put, List.setIfInBounds_toArray, List.set_cons_zero, List.set_cons_succ, i64_w, i32_w]
                          rfl
                        refine pure_ (i := 17) (N := some 84) (v := ?_) (a' := ?_) #[true, true, true, true, true, true, true, true, true, true, true, true, true, true, true, true, true, true, false, false, false, false] rfl rfl (any_of HT_.out (by kernel_rfl)) (fun _ _ _ h => h) (Or.inl ⟨by rfl, ?_⟩) ?_ ?_
                        rotate_left
                        · intro w'
                          go_simp
                          with_reducible rfl
                        rotate_left
                        · simp only [Act.put, List.setIfInBounds_toArray, List.set_cons_zero, List.set_cons_succ, i64_w, i32_w]
                          rfl
                        refine pure_ (i := 18) (N := some 85) (v := ?_) (a' := ?_) #[true, true, true, true, true, true, true, true, true, true, true, true, true, true, true, true, true, true, true, false, false, false] rfl rfl (any_of HT_.out (by kernel_rfl)) (fun _ _ _ h => h) (Or.inl ⟨by rfl, ?_⟩) ?_ ?_
                        rotate_left
                        · intro w'
                          go_simp
                          with_reducible rfl
                        rotate_left
                        · simp only [Act.put, List.setIfInBounds_toArray, List.set_cons_zero, List.set_cons_succ, i64_w, i32_w]
                          rfl
                        refine one_ (i := 19) (N := some 86) #[true, true, true, true, true, true, true, true, true, true, true, true, true, true, true, true, true, true, true, true, false, false] rfl rfl (one_of HT_.out (by kernel_rfl)) (by decide) (fun K hK => ?_)
                        refine goes_ Try.func11 (by kernel_rfl) rfl #[] (by rfl) rfl rfl (by (try simp only [List.map_toArray, List.map_cons, List.map_nil]); first | done | rfl | (simp only [List.length_drop, List.length_take]; rfl)) ?_
                        with_reducible refine (minstrellaw07_lives.calls k2  t222 _ A32.out).mono ?_
                        rintro e w53 ⟨rfl, hb⟩
                        refine ⟨_, rfl, ?_⟩
                        have n0_ := Aside0.mk (Kd.R_below (by (with_reducible repeat (first | apply Kd.R_alloc | apply Kd.R_drewN | apply Kd.R_drew)); exact HO_7.out) hb)
                        have n1_ := Aside0.mk (Kd.R_below (by (with_reducible repeat (first | apply Kd.R_alloc | apply Kd.R_drewN | apply Kd.R_drew)); exact HO187.out) hb)
                        have n2_ := Aside0.mk (Kd.V_below (by (with_reducible repeat (first | apply Kd.V_alloc | apply Kd.V_drewN | apply Kd.V_drew)); exact HO194.out) hb)
                        have n3_ := Aside0.mk (Kd.R_below (by (with_reducible repeat (first | apply Kd.R_alloc | apply Kd.R_drewN | apply Kd.R_drew)); exact HO201.out) hb)
                        have n4_ := Aside0.mk (Kd.R_below (by (with_reducible repeat (first | apply Kd.R_alloc | apply Kd.R_drewN | apply Kd.R_drew)); exact HO207.out) hb)
                        have n5_ := Aside0.mk (Kd.R_below (by (with_reducible repeat (first | apply Kd.R_alloc | apply Kd.R_drewN | apply Kd.R_drew)); exact HO214.out) hb)
                        have n6_ := Aside0.mk (Kd.R_below (by (with_reducible repeat (first | apply Kd.R_alloc | apply Kd.R_drewN | apply Kd.R_drew)); exact HO220.out) hb)
                        have n7_ := Aside0.mk (blk_below (g := gb188) (o := .cells #[.int .i64 t182, .int .u64 t183, .string t184, .slice Ao37 t185.length co37] 26 (0, 0)) (by (with_reducible repeat (first | refine blk_drewN ?_ _ | refine blk_drew ?_ | refine blk_alloc ?_ _)); exact BK188.out) hb)
                        have n8_ := Aside0.mk (below_step (by repeat (first | (with_reducible first | exact HB.out | apply below_alloc | apply pw_below_drewN | apply below_drew1 | refine below_set ?_ GE188.out) | exact HB.out)) hb)
                        clear HO_7
                        clear HO187
                        clear HO194
                        clear HO201
                        clear HO207
                        clear HO214
                        clear HO220
                        clear BK188
                        clear HB
                        have HO_7 := n0_
                        have HO187 := n1_
                        have HO194 := n2_
                        have HO201 := n3_
                        have HO207 := n4_
                        have HO214 := n5_
                        have HO220 := n6_
                        have BK188 := n7_
                        have HB := n8_
                        clear n0_ n1_ n2_ n3_ n4_ n5_ n6_ n7_ n8_
                        (try clear hb)
                        (try clear hb2)
                        (try clear hk)
                        (try clear hi)
                        refine hK.out _ _ ⟨(blk_cell BK188.out 0).trans rfl, (blk_cell BK188.out 1).trans rfl, (blk_cell BK188.out 2).trans rfl, (blk_cell BK188.out 3).trans rfl⟩ (fun hHeld => ?_)
                        clear hK K
                        refine norm_ (a' := ?_) ?_ ?_
                        rotate_left
                        · show Act.put _ (some 86) _ = _
                          simp only [Act.put, List.setIfInBounds_toArray, List.set_cons_zero, List.set_cons_succ, i64_w, i32_w]
                          rfl
                        refine pure_ (i := 20) (N := some 87) (v := ?_) (a' := ?_) #[true, true, true, true, true, true, true, true, true, true, true, true, true, true, true, true, true, true, true, true, true, false] rfl rfl (any_of HT_.out (by kernel_rfl)) (fun _ _ _ h => h) (Or.inl ⟨by rfl, ?_⟩) ?_ ?_
                        rotate_left
                        · intro w'
                          go_simp
                          with_reducible rfl
                        rotate_left
                        · simp only [Act.put, List.setIfInBounds_toArray, List.set_cons_zero, List.set_cons_succ, i64_w, i32_w]
                          rfl
                        refine pure_ (i := 21) (N := some 6) (v := ?_) (a' := ?_) #[true, true, true, true, true, true, true, true, true, true, true, true, true, true, true, true, true, true, true, true, true, true] rfl rfl (any_of HT_.out (by kernel_rfl)) (fun _ _ _ h => h) (Or.inl ⟨by rfl, ?_⟩) ?_ ?_
                        rotate_left
                        · intro w'
                          go_simp
                          with_reducible rfl
                        rotate_left
                        · simp only [Act.put, List.setIfInBounds_toArray, List.set_cons_zero, List.set_cons_succ, i64_w, i32_w]
                          rfl
                        refine done_ (done_of HT_.out (by kernel_rfl)) ?_
                        try go_wp2
                        go_ret
                        exact ⟨by first | rfl | (simp [errW_none, errW_some] <;> rfl) | (simp [*, errW_none, errW_some] <;> rfl), by repeat (first | (with_reducible first | exact HB.out | apply below_alloc | apply pw_below_drewN | apply below_drew1 | refine below_set ?_ GE188.out) | exact HB.out)⟩
                      | succ j10 =>
                        obtain ⟨I, hI, hIj, hM⟩ := HM.out
                        obtain ⟨g7, eA, M⟩ : ∃ g, Ao33 = some ⟨g, 0, none⟩ ∧ MkInv w.heap.size Bm g x7_2.length I w38 wr := hM.resolve_left (fun h => by omega)
                        subst eA
                        clear HM hM
                        obtain ⟨cs7, hc7, hs7, hel⟩ := M.row
                        obtain ⟨v3, hv3, A3, n3, c3, e3, hEl⟩ := hel I (Nat.le_refl _) (by omega)
                        subst e3
                        clear hel hEl
                        have b10 : decide (i10 < (x7_2.length : Int)) = true := decide_eq_true (by omega)
                        have p10 : (0 ≤ i10) = True := eq_true (by omega)
                        have q10 : (i10 < (x7_2.length : Int)) = True := eq_true (by omega)
                        have hx7 : wr.cell? ⟨g7, i10.toNat * 4 + 3, none⟩ = some (.slice A3 n3 c3) := by rw [hI, Int.toNat_natCast]; exact (blk_cell hc7 _).trans hv3
                        have HI := Aside0.mk (And.intro hI hIj)
                        have AM : Aside0 (MkInv w.heap.size Bm g7 x7_2.length I w38 wr ∧ wr.heap[g7]? = some (.cells cs7 26 (0, 0))) := ⟨M, hc7⟩
                        have HV := Aside0.mk (And.intro hv3 hs7)
                        clear hI hIj M hc7 hv3 hs7
                        go_wp2
                        clear hx7
                        go_loopg [11] n3 (fun j v11 w' => ∃ i : Int, v11 = .int .i64 i ∧ Aside0 (∃ K : Nat, i = (K : Int) ∧ K + j = n3) ∧ Aside0 (MkInv w.heap.size Bm g7 x7_2.length I w38 w' ∧ w'.heap[g7]? = some (.cells cs7 26 (0, 0))))
                        case atStart => exact ⟨0, rfl, ⟨0, rfl, by omega⟩, AM⟩
                        case round =>
                          clear AM
                          obtain ⟨i11, rfl, HK, AM⟩ := hrel
                          have hx7 : wr.cell? ⟨g7, i10.toNat * 4 + 3, none⟩ = some (.slice A3 n3 c3) := by rw [HI.out.1, Int.toNat_natCast]; exact (blk_cell AM.out.2 _).trans HV.out.1
                          cases gk with
                          | zero =>
                            have b11 : decide (i11 < (n3 : Int)) = false := decide_eq_false (by obtain ⟨K, h1, h2⟩ := HK.out; omega)
                            obtain ⟨u0, hu0⟩ := cell_in AM.out.2 (i10.toNat * 4) (by have := HI.out.1; have := HI.out.2; have := HV.out.2; omega)
                            obtain ⟨u1, hu1⟩ := cell_in AM.out.2 (i10.toNat * 4 + 1) (by have := HI.out.1; have := HI.out.2; have := HV.out.2; omega)
                            obtain ⟨u2, hu2⟩ := cell_in AM.out.2 (i10.toNat * 4 + 2) (by have := HI.out.1; have := HI.out.2; have := HV.out.2; omega)
                            have hf0 := blk_frozen AM.out.2 (i10.toNat * 4)
                            have hf1 := blk_frozen AM.out.2 (i10.toNat * 4 + 1)
                            have hf2 := blk_frozen AM.out.2 (i10.toNat * 4 + 2)
                            have hf3 := blk_frozen AM.out.2 (i10.toNat * 4 + 3)
                            have HW10 : Aside0 (wrap64 (i10 + 1) = ((I + 1 : Nat) : Int)) := ⟨by have h1 := HI.out.1; have h2 := HI.out.2; have h3 := AM.out.1.nle; simp only [maxLen] at h3; unfold wrap64; omega⟩
                            go_wp2
                            go_roundg j10
                            case measure => omega
                            case rel => exact ⟨_, rfl, ⟨I + 1, HW10.out, by have := HI.out.2; omega, .inr ⟨g7, rfl, AM.out.1.next.set4 g7 (i10.toNat * 4) _ _ _ _ AM.out.1.glo AM.out.1.ghi (fun _ => by have := HI.out.1; omega)⟩⟩⟩
                          | succ j11 =>
                            obtain ⟨K, hK, hKj⟩ := HK.out
                            obtain ⟨b11, csb, eb, hcb, hsb, hbg, hblo, hbhi, hbm⟩ := AM.out.1.el AM.out.2 HV.out.1 (by have := HI.out.2; omega) (by omega)
                            subst eb
                            clear HK
                            have b11_ : decide (i11 < (n3 : Int)) = true := decide_eq_true (by omega)
                            have p11 : (0 ≤ i11) = True := eq_true (by omega)
                            have q11 : (i11 < (n3 : Int)) = True := eq_true (by omega)
                            obtain ⟨u0, hu0⟩ := cell_in hcb (i11.toNat * 4) (by omega)
                            obtain ⟨u1, hu1⟩ := cell_in hcb (i11.toNat * 4 + 1) (by omega)
                            obtain ⟨u2, hu2⟩ := cell_in hcb (i11.toNat * 4 + 2) (by omega)
                            obtain ⟨u3, hu3⟩ := cell_in hcb (i11.toNat * 4 + 3) (by omega)
                            have hf0 := blk_frozen hcb (i11.toNat * 4)
                            have hf1 := blk_frozen hcb (i11.toNat * 4 + 1)
                            have hf2 := blk_frozen hcb (i11.toNat * 4 + 2)
                            have hf3 := blk_frozen hcb (i11.toNat * 4 + 3)
                            have HW11 : Aside0 (wrap64 (i11 + 1) = ((K + 1 : Nat) : Int)) := ⟨by simp only [maxLen] at hbm; unfold wrap64; omega⟩
                            have HF : Aside0 (b11 ≠ g7 ∧ w.heap.size ≤ b11 ∧ b11 < Bm ∧ K + 1 + j11 = n3) := ⟨hbg, hblo, hbhi, by omega⟩
                            clear hK hKj hsb hbm hbg hblo hbhi
                            go_wp2
                            go_roundg j11
                            case measure => omega
                            case rel => exact ⟨_, rfl, ⟨K + 1, HW11.out, HF.out.2.2.2⟩, ⟨AM.out.1.set4 b11 (i11.toNat * 4) _ _ _ _ HF.out.2.1 HF.out.2.2.1 (fun e => absurd e HF.out.1), (heap_set4 (Ne.symm HF.out.1) _ _ _ _ _).trans AM.out.2⟩⟩
                  · replace c31 := Bool.eq_false_iff.mpr c31
                    subst c31
                    have H1 : (some false) = some r := by rw [if_neg (show ¬ (false = true) by decide)] at H; exact H
                    clear H
                    have H := H1
                    clear H1
                    obtain rfl := Option.some.inj H
                    obtain ⟨Ao54, co54, eo54⟩ := Kd.R_slice HO_7.out
                    subst eo54
                    try go_wp2_with (first | ((with_reducible refine gate_callee (f := 15) rfl ?_); refine goesL_ (some 38) rfl rfl Try.func15 (by kernel_rfl) rfl #[.slice Ao54 x7_2.length co54] rfl (by (try simp only [List.map_toArray, List.map_cons, List.map_nil]); first | done | rfl | (simp only [List.length_drop, List.length_take]; rfl)) ?_; (with_reducible refine (code_List.calls k2 _ _ x7_2 t182 t183 t184 t185 _ ?side1 ?side2 A20.out).mono ?_); (case side1 => repeat (first | exact (Kd.R_reads' HO_7.out).2.2 | (with_reducible refine Kd.C_alloc ?_ _) | (with_reducible refine Kd.C_drewN ?_ _) | (with_reducible refine Kd.C_drew ?_))); (case side2 => exact (Kd.R_reads' HO_7.out).2.1); rintro e w55 ⟨v186, rfl, ho0, hb⟩; refine ⟨_, rfl, ?_⟩; have AP := Aside0.mk (Apart2.made (by (with_reducible repeat (first | apply Kd.R_alloc | apply Kd.R_drewN | apply Kd.R_drew)); exact HO_7.out) hb ho0 (below_size (by repeat (first | (with_reducible first | exact HB.out | apply below_alloc | apply pw_below_drewN | apply below_drew1) | exact HB.out)))); have n0_ := Aside0.mk (Kd.R_elder' (by (with_reducible repeat (first | apply Kd.R_alloc | apply Kd.R_drewN | apply Kd.R_drew)); exact HO_7.out) (Kd.R_base ho0) hb); have n1_ := Aside0.mk (Kd.R_lower (Kd.R_new' ho0 (Kd.R_lt (by (with_reducible repeat (first | apply Kd.R_alloc | apply Kd.R_drewN | apply Kd.R_drew)); exact HO_7.out))) (below_size (by repeat (first | (with_reducible first | exact HB.out | apply below_alloc | apply pw_below_drewN | apply below_drew1) | exact HB.out)))); have n2_ := Aside0.mk (below_step (by repeat (first | (with_reducible first | exact HB.out | apply below_alloc | apply pw_below_drewN | apply below_drew1) | exact HB.out)) hb); clear HO_7; clear HB; have HO_7 := n0_; have HO187 := n1_; have HB := n2_; clear n0_ n1_ n2_; (try clear hb); (try clear hb2); (try clear hk); (try clear hi); (try clear ho0)) | ((with_reducible refine gate_dst (N := 9) rfl ?_); refine box_event ?hg (N := 9) ?hd (cs := #[.int .i64 0, .int .u64 0, .string (⟨#[]⟩ : ByteArray), .slice none 0 0]) (t := 26) ?hr ?_; (case hd => rfl); (case hg => rfl); (case hr => first | (go_simp; done) | (go_simp; rfl)); intro gb188 hg w56 hbox hb; have AP3 := Aside0.mk (Apart2.box AP.out hg hb); clear AP; have n0_ := Aside0.mk (Kd.R_below (Kd.R_elderB (by (with_reducible repeat (first | apply Kd.R_alloc | apply Kd.R_drewN | apply Kd.R_drew)); exact HO_7.out) gb188 (Nat.le_of_eq hg.symm)) hb); have n1_ := Aside0.mk (Kd.R_below (Kd.R_elderB (by (with_reducible repeat (first | apply Kd.R_alloc | apply Kd.R_drewN | apply Kd.R_drew)); exact HO187.out) gb188 (Nat.le_of_eq hg.symm)) hb); have n2_ := Aside0.mk (below_step (by repeat (first | (with_reducible first | exact HB.out | apply below_alloc | apply pw_below_drewN | apply below_drew1) | exact HB.out)) hb); have n3_ := Aside0.mk (hbox); have n4_ := Aside0.mk ((by rw [hg]; exact (below_size (by repeat (first | (with_reducible first | exact HB.out | apply below_alloc | apply pw_below_drewN | apply below_drew1) | exact HB.out))) : w.heap.size ≤ gb188)); have n5_ := Aside0.mk ((by rw [hg]; exact (below_size (by repeat (first | (with_reducible first | exact HB.out | apply below_alloc | apply pw_below_drewN | apply below_drew1) | exact HB.out))) : w.heap.size ≤ gb188)); clear HO_7; clear HO187; clear HB; have HO_7 := n0_; have HO187 := n1_; have HB := n2_; have BK188 := n3_; have GW188 := n4_; have GE188 := n5_; clear n0_ n1_ n2_ n3_ n4_ n5_; clear hb hbox hg; have hcz57_0 : w56.cell? ⟨gb188, 0, none⟩ = some (.int .i64 0) := (blk_cell BK188.out 0).trans rfl; have hcz57_1 : w56.cell? ⟨gb188, 1, none⟩ = some (.int .u64 0) := (blk_cell BK188.out 1).trans rfl; have hcz57_2 : w56.cell? ⟨gb188, 2, none⟩ = some (.string (⟨#[]⟩ : ByteArray)) := (blk_cell BK188.out 2).trans rfl; have hcz57_3 : w56.cell? ⟨gb188, 3, none⟩ = some (.slice none 0 0) := (blk_cell BK188.out 3).trans rfl; have hfz57_0 := blk_frozen BK188.out 0; have hfz57_1 := blk_frozen BK188.out 1; have hfz57_2 := blk_frozen BK188.out 2; have hfz57_3 := blk_frozen BK188.out 3; obtain ⟨Ao58, co58, eo58⟩ := Kd.R_slice HO187.out; subst eo58))
                    have n0_ : Aside0 (Kd.R k26 26 ((((w56.setCell ⟨gb188, 0, none⟩ (.int .i64 t182)).setCell ⟨gb188, 1, none⟩ (.int .u64 t183)).setCell ⟨gb188, 2, none⟩ (.string t184)).setCell ⟨gb188, 3, none⟩ (.slice Ao58 t185.length co58)) w.heap.size (fun k_ => some k_ ≠ (.slice Ao58 t185.length co58 : Value).ownBlock ∧ k_ ≠ gb188) (.slice Ao54 x7_2.length co54) x7_2) := ⟨by (with_reducible repeat (first | apply Kd.R_alloc | apply Kd.R_drewN | apply Kd.R_drew)); exact Kd.R_mono (Kd.R_far (p := ⟨gb188, 3, none⟩) (Kd.R_far (p := ⟨gb188, 2, none⟩) (Kd.R_far (p := ⟨gb188, 1, none⟩) (Kd.R_far (p := ⟨gb188, 0, none⟩) (Kd.R_mono HO_7.out (fun k_ hk => (⟨hk, hk.2⟩ : _ ∧ k_ ≠ gb188))) (fun _ hk => hk.2) (.int .i64 t182)) (fun _ hk => hk.2) (.int .u64 t183)) (fun _ hk => hk.2) (.string t184)) (fun _ hk => hk.2) (.slice Ao58 t185.length co58)) (fun _ hk => ⟨hk.1.1.2, hk.1.2⟩)⟩
                    have n1_ : Aside0 (Kd.R k26 26 ((((w56.setCell ⟨gb188, 0, none⟩ (.int .i64 t182)).setCell ⟨gb188, 1, none⟩ (.int .u64 t183)).setCell ⟨gb188, 2, none⟩ (.string t184)).setCell ⟨gb188, 3, none⟩ (.slice Ao58 t185.length co58)) w.heap.size (fun k_ => some k_ ≠ (.slice Ao54 x7_2.length co54 : Value).ownBlock ∧ k_ ≠ gb188) (.slice Ao58 t185.length co58) t185) := ⟨by (with_reducible repeat (first | apply Kd.R_alloc | apply Kd.R_drewN | apply Kd.R_drew)); exact Kd.R_mono (Kd.R_far (p := ⟨gb188, 3, none⟩) (Kd.R_far (p := ⟨gb188, 2, none⟩) (Kd.R_far (p := ⟨gb188, 1, none⟩) (Kd.R_far (p := ⟨gb188, 0, none⟩) (Kd.R_mono HO187.out (fun k_ hk => (⟨hk, hk.2⟩ : _ ∧ k_ ≠ gb188))) (fun _ hk => hk.2) (.int .i64 t182)) (fun _ hk => hk.2) (.int .u64 t183)) (fun _ hk => hk.2) (.string t184)) (fun _ hk => hk.2) (.slice Ao58 t185.length co58)) (fun _ hk => ⟨hk.1.1.2, hk.1.2⟩)⟩
                    have n2_ : Aside0 (((((w56.setCell ⟨gb188, 0, none⟩ (.int .i64 t182)).setCell ⟨gb188, 1, none⟩ (.int .u64 t183)).setCell ⟨gb188, 2, none⟩ (.string t184)).setCell ⟨gb188, 3, none⟩ (.slice Ao58 t185.length co58)).heap[gb188]? = some (.cells #[.int .i64 t182, .int .u64 t183, .string t184, .slice Ao58 t185.length co58] 26 (0, 0))) := ⟨by (with_reducible repeat (first | refine blk_drewN ?_ _ | refine blk_drew ?_ | refine blk_alloc ?_ _)); refine blk_put (cs := #[.int .i64 t182, .int .u64 t183, .string t184, .slice none 0 0]) ?_ 3 _ rfl; (with_reducible repeat (first | refine blk_drewN ?_ _ | refine blk_drew ?_ | refine blk_alloc ?_ _)); refine blk_put (cs := #[.int .i64 t182, .int .u64 t183, .string (⟨#[]⟩ : ByteArray), .slice none 0 0]) ?_ 2 _ rfl; (with_reducible repeat (first | refine blk_drewN ?_ _ | refine blk_drew ?_ | refine blk_alloc ?_ _)); refine blk_put (cs := #[.int .i64 t182, .int .u64 0, .string (⟨#[]⟩ : ByteArray), .slice none 0 0]) ?_ 1 _ rfl; (with_reducible repeat (first | refine blk_drewN ?_ _ | refine blk_drew ?_ | refine blk_alloc ?_ _)); refine blk_put (cs := #[.int .i64 0, .int .u64 0, .string (⟨#[]⟩ : ByteArray), .slice none 0 0]) ?_ 0 _ rfl; (with_reducible repeat (first | refine blk_drewN ?_ _ | refine blk_drew ?_ | refine blk_alloc ?_ _)); exact BK188.out⟩
                    have n3_ : Aside0 (Below w.heap.size w ((((w56.setCell ⟨gb188, 0, none⟩ (.int .i64 t182)).setCell ⟨gb188, 1, none⟩ (.int .u64 t183)).setCell ⟨gb188, 2, none⟩ (.string t184)).setCell ⟨gb188, 3, none⟩ (.slice Ao58 t185.length co58))) := ⟨by repeat (first | (with_reducible first | exact HB.out | apply below_alloc | apply pw_below_drewN | apply below_drew1 | refine below_set ?_ GE188.out) | exact HB.out)⟩
                    (try clear HO_7)
                    (try clear HO187)
                    (try clear BK188)
                    (try clear HB)
                    have n9_ : Aside0 (Apart3 w.heap.size ((((w56.setCell ⟨gb188, 0, none⟩ (.int .i64 t182)).setCell ⟨gb188, 1, none⟩ (.int .u64 t183)).setCell ⟨gb188, 2, none⟩ (.string t184)).setCell ⟨gb188, 3, none⟩ (.slice Ao58 t185.length co58)) (.slice Ao54 x7_2.length co54) (.slice Ao58 t185.length co58) x7_2 t185 gb188) := ⟨(((AP3.out.set 0 _).set 1 _).set 2 _).set 3 _⟩
                    clear AP3
                    generalize ((((w56.setCell ⟨gb188, 0, none⟩ (.int .i64 t182)).setCell ⟨gb188, 1, none⟩ (.int .u64 t183)).setCell ⟨gb188, 2, none⟩ (.string t184)).setCell ⟨gb188, 3, none⟩ (.slice Ao58 t185.length co58)) = w59 at n0_ n1_ n2_ n3_ n9_ ⊢
                    have HO_7 := n0_
                    have HO187 := n1_
                    have BK188 := n2_
                    have HB := n3_
                    clear n0_ n1_ n2_ n3_
                    obtain ⟨Bm, hB1, hB2, hB3, hB4⟩ := n9_.out
                    have AM := MkInv.made hB3
                    have HC := Aside0.mk hB4
                    have HBm := Aside0.mk (And.intro hB1 hB2)
                    have AM0 : Aside0 (x7_2.length = 0 ∧ w59 = w59 ∨ ∃ g, Ao54 = some ⟨g, 0, none⟩ ∧ MkInv w.heap.size Bm g x7_2.length 0 w59 w59) := ⟨AM.imp (fun h => ⟨h, rfl⟩) id⟩
                    clear AM hB1 hB2 hB3 hB4 HO_7 HO187 n9_
                    go_loopg [10, 11] (x7_2.length) (fun j v10 v11 w' => ∃ i : Int, v10 = .int .i64 i ∧ Aside0 (∃ I : Nat, i = (I : Int) ∧ I + j = x7_2.length ∧ (x7_2.length = 0 ∧ w' = w59 ∨ ∃ g, Ao54 = some ⟨g, 0, none⟩ ∧ MkInv w.heap.size Bm g x7_2.length I w59 w')))
                    case atStart => exact ⟨0, rfl, ⟨0, rfl, by omega, AM0.out⟩⟩
                    case round =>
                      clear AM0
                      obtain ⟨i10, rfl, HM⟩ := hrel
                      cases gk with
                      | zero =>
                        have b10 : decide (i10 < (x7_2.length : Int)) = false := decide_eq_false (by obtain ⟨I, h1, h2, _⟩ := HM.out; omega)
                        have HS : Aside0 ((∀ k, Bm ≤ k → wr.heap[k]? = w59.heap[k]?) ∧ Below w.heap.size w59 wr) := ⟨by
                          obtain ⟨I, _, _, h | ⟨g, _, h⟩⟩ := HM.out
                          · rw [h.2]; exact ⟨fun _ _ => rfl, Below.refl _ _⟩
                          · exact ⟨fun k hk => h.same k (.inr hk), h.bel⟩⟩
                        clear HM
                        go_wp2
                        have n0_ : Aside0 (Kd.R k26 26 wr w.heap.size (fun k_ => some k_ ≠ (.slice Ao58 t185.length co58 : Value).ownBlock ∧ k_ ≠ gb188) (.slice none 0 0) []) := ⟨Kd.R_nil _ _ _ _ _⟩
                        have n1_ : Aside0 (Kd.R k26 26 wr w.heap.size (fun k_ => some k_ ≠ (.slice none 0 0 : Value).ownBlock ∧ k_ ≠ gb188) (.slice Ao58 t185.length co58) t185) := ⟨Kd.R_mono (Kd.R_move HC.out (fun k hk => HS.out.1 k hk.1)) (fun k hk => ⟨by simp [Value.ownBlock], hk.2⟩)⟩
                        have n2_ := Aside0.mk ((HS.out.1 gb188 HBm.out.2).trans BK188.out)
                        have n3_ := Aside0.mk (HB.out.trans HS.out.2)
                        clear BK188 HB HC HS HBm
                        have HO_7 := n0_
                        have HO187 := n1_
                        have BK188 := n2_
                        have HB := n3_
                        clear n0_ n1_ n2_ n3_
                        have n0_ := Aside0.mk (Kd.R_drew HO_7.out)
                        have n1_ := Aside0.mk (Kd.R_drew HO187.out)
                        have n2_ := Aside0.mk (blk_drew BK188.out)
                        have n3_ := Aside0.mk (below_drew1 HB.out)
                        clear HO_7
                        clear HO187
                        clear BK188
                        clear HB
                        have HO_7 := n0_
                        have HO187 := n1_
                        have BK188 := n2_
                        have HB := n3_
                        clear n0_ n1_ n2_ n3_
                        refine start_ (n := 22) (S := fun w' => w'.cell? ⟨gb188, 0, none⟩ = some (.int .i64 t182) ∧ w'.cell? ⟨gb188, 1, none⟩ = some (.int .u64 t183) ∧ w'.cell? ⟨gb188, 2, none⟩ = some (.string t184) ∧ w'.cell? ⟨gb188, 3, none⟩ = some (.slice Ao58 t185.length co58)) (ds := []) #[false, false, false, false, false, false, false, false, false, false, false, false, false, false, false, false, false, false, false, false, false, false] (by kernel_rfl) rfl rfl ⟨(blk_cell BK188.out 0).trans rfl, (blk_cell BK188.out 1).trans rfl, (blk_cell BK188.out 2).trans rfl, (blk_cell BK188.out 3).trans rfl⟩ (fun hHeld => ?_); refine with_tabW minstrellaw07_CodeMakes.tab17 minstrellaw07_CodeMakes.bits17 (fun HT_ HW_ => ?_)
                        generalize wr.drew = w60 at HO_7 HO187 BK188 HB hHeld ⊢
                        refine pure_ (i := 1) (N := some 68) (v := ?_) (a' := ?_) #[false, true, false, false, false, false, false, false, false, false, false, false, false, false, false, false, false, false, false, false, false, false] rfl rfl (any_of HT_.out (by kernel_rfl)) (fun _ _ _ h => h) (Or.inl ⟨by rfl, ?_⟩) ?_ ?_
                        rotate_left
                        · intro w'
                          go_simp
                          with_reducible rfl
                        rotate_left
                        · simp only [Act.put, List.setIfInBounds_toArray, List.set_cons_zero, List.set_cons_succ, i64_w, i32_w]
                          rfl
                        refine take_ (i := 0) (N := some 67) (v := ?_) (a' := ?_) #[true, true, false, false, false, false, false, false, false, false, false, false, false, false, false, false, false, false, false, false, false, false] rfl rfl (take_ofW HT_.out HW_.out (by kernel_rfl)) (fun _ _ _ h => h) (Or.inl ⟨by rfl, ?_⟩) hHeld ?_ ?_
                        rotate_left
                        · rintro w' ⟨s0, s1, s2, s3⟩
                          go_simp
                          with_reducible rfl
                        rotate_left
                        · simp only [Act.put, List.setIfInBounds_toArray, List.set_cons_zero, List.set_cons_succ, i64_w, i32_w]
                          rfl
                        refine one_ (i := 2) (N := some 69) #[true, true, true, false, false, false, false, false, false, false, false, false, false, false, false, false, false, false, false, false, false, false] rfl rfl (one_of HT_.out (by kernel_rfl)) (by decide) (fun K hK => ?_)
                        refine goes_ Try.func16 (by kernel_rfl) rfl #[.slice A2 l2.length c2] (by rfl) rfl rfl (by (try simp only [List.map_toArray, List.map_cons, List.map_nil]); first | done | rfl | (simp only [List.length_drop, List.length_take]; rfl)) ?_
                        with_reducible refine (minstrelref07_List.calls (fun k_ => k_ < w.heap.size) _ _ l2 t189 t190 t191 t192 _ ?side1 A21.out).mono ?_
                        (case side1 => exact Kd.V_mk HC2.out (Kd.F_below (Kd.C_F k26_heap HR2.out) (by repeat (first | (with_reducible first | exact HB.out | apply below_alloc | apply pw_below_drewN | apply below_drew1 | refine below_set ?_ GE188.out) | exact HB.out))))
                        rintro e w61 ⟨v193, rfl, ho0, hb⟩
                        refine ⟨_, rfl, ?_⟩
                        have n0_ := Aside0.mk (Kd.R_below (by (with_reducible repeat (first | apply Kd.R_alloc | apply Kd.R_drewN | apply Kd.R_drew)); exact HO_7.out) hb)
                        have n1_ := Aside0.mk (Kd.R_below (by (with_reducible repeat (first | apply Kd.R_alloc | apply Kd.R_drewN | apply Kd.R_drew)); exact HO187.out) hb)
                        have n2_ := Aside0.mk (Kd.V_lower (Kd.V_mono (ok' := fun k_ => some k_ ≠ (.slice none 0 0 : Value).ownBlock ∧ some k_ ≠ (.slice Ao58 t185.length co58 : Value).ownBlock ∧ k_ ≠ gb188) ho0 (fun k_ hk_ => ⟨Or.elim hk_ (fun hs_ => fun e_ => Nat.not_le.2 hs_ (Kd.R_base HO_7.out k_ e_.symm)) (fun hn_ => (Kd.fresh' (Kd.R_lt (by (with_reducible repeat (first | apply Kd.R_alloc | apply Kd.R_drewN | apply Kd.R_drew)); exact HO_7.out)) k_ hn_)), Or.elim hk_ (fun hs_ => fun e_ => Nat.not_le.2 hs_ (Kd.R_base HO187.out k_ e_.symm)) (fun hn_ => (Kd.fresh' (Kd.R_lt (by (with_reducible repeat (first | apply Kd.R_alloc | apply Kd.R_drewN | apply Kd.R_drew)); exact HO187.out)) k_ hn_)), Or.elim hk_ (fun hs_ => fun e_ => Nat.not_le.2 hs_ (by rw [e_]; exact GW188.out)) (fun hn_ => (Kd.freshB (g := gb188) (o := .cells #[.int .i64 t182, .int .u64 t183, .string t184, .slice Ao58 t185.length co58] 26 (0, 0)) (by (with_reducible repeat (first | refine blk_drewN ?_ _ | refine blk_drew ?_ | refine blk_alloc ?_ _)); exact BK188.out) k_ hn_))⟩)) (below_size (by repeat (first | (with_reducible first | exact HB.out | apply below_alloc | apply pw_below_drewN | apply below_drew1 | refine below_set ?_ GE188.out) | exact HB.out))))
                        have n3_ := Aside0.mk (blk_below (g := gb188) (o := .cells #[.int .i64 t182, .int .u64 t183, .string t184, .slice Ao58 t185.length co58] 26 (0, 0)) (by (with_reducible repeat (first | refine blk_drewN ?_ _ | refine blk_drew ?_ | refine blk_alloc ?_ _)); exact BK188.out) hb)
                        have n4_ := Aside0.mk (below_step (by repeat (first | (with_reducible first | exact HB.out | apply below_alloc | apply pw_below_drewN | apply below_drew1 | refine below_set ?_ GE188.out) | exact HB.out)) hb)
                        clear HO_7
                        clear HO187
                        clear BK188
                        clear HB
                        have HO_7 := n0_
                        have HO187 := n1_
                        have HO194 := n2_
                        have BK188 := n3_
                        have HB := n4_
                        clear n0_ n1_ n2_ n3_ n4_
                        (try clear hb)
                        (try clear hb2)
                        (try clear hk)
                        (try clear hi)
                        (try clear ho0)
                        obtain ⟨Ao62, co62, eo62⟩ := Kd.V_slice HO194.out
                        (first | subst eo62 | (injection eo62 with f1_ f2_ f3_; have f4_ := f1_.symm; have f5_ := f3_.symm; clear f1_ f2_ f3_; subst f4_; subst f5_))
                        refine hK.out _ _ ⟨(blk_cell BK188.out 0).trans rfl, (blk_cell BK188.out 1).trans rfl, (blk_cell BK188.out 2).trans rfl, (blk_cell BK188.out 3).trans rfl⟩ (fun hHeld => ?_)
                        clear hK K
                        refine norm_ (a' := ?_) ?_ ?_
                        rotate_left
                        · show Act.put _ (some 69) _ = _
                          simp only [Act.put, List.setIfInBounds_toArray, List.set_cons_zero, List.set_cons_succ, i64_w, i32_w]
                          rfl
                        refine one_ (i := 3) (N := some 70) #[true, true, true, true, false, false, false, false, false, false, false, false, false, false, false, false, false, false, false, false, false, false] rfl rfl (one_of HT_.out (by kernel_rfl)) (by decide) (fun K hK => ?_)
                        refine goes_ Try.func10 (by kernel_rfl) rfl #[.agg #[.int .i64 t182, .int .u64 t183, .string t184, .slice Ao58 t185.length co58], .agg #[.int .i64 t189, .int .u64 t190, .string t191, .slice Ao62 t192.length co62]] (by rfl) rfl rfl (by (try simp only [List.map_toArray, List.map_cons, List.map_nil]); first | done | rfl | (simp only [List.length_drop, List.length_take]; rfl)) ?_
                        with_reducible refine (minstrelref07_Same.calls k2 t182 t183 t184 _ _ t185 t189 t190 t191 _ _ t192 true _ ?side1 ?side2 ?side3 ?side4 A22.out).mono ?_
                        (case side1 => repeat (first | exact (Kd.R_reads' HO187.out).2.2 | (with_reducible refine Kd.C_alloc ?_ _) | (with_reducible refine Kd.C_drewN ?_ _) | (with_reducible refine Kd.C_drew ?_)))
                        (case side2 => exact (Kd.R_reads' HO187.out).2.1)
                        (case side3 => repeat (first | exact (Kd.V_reads' HO194.out).2.2 | (with_reducible refine Kd.C_alloc ?_ _) | (with_reducible refine Kd.C_drewN ?_ _) | (with_reducible refine Kd.C_drew ?_)))
                        (case side4 => exact (Kd.V_reads' HO194.out).2.1)
                        rintro e w63 ⟨rfl, hb⟩
                        refine ⟨_, rfl, ?_⟩
                        have n0_ := Aside0.mk (Kd.R_below (by (with_reducible repeat (first | apply Kd.R_alloc | apply Kd.R_drewN | apply Kd.R_drew)); exact HO_7.out) hb)
                        have n1_ := Aside0.mk (Kd.R_below (by (with_reducible repeat (first | apply Kd.R_alloc | apply Kd.R_drewN | apply Kd.R_drew)); exact HO187.out) hb)
                        have n2_ := Aside0.mk (Kd.V_below (by (with_reducible repeat (first | apply Kd.V_alloc | apply Kd.V_drewN | apply Kd.V_drew)); exact HO194.out) hb)
                        have n3_ := Aside0.mk (blk_below (g := gb188) (o := .cells #[.int .i64 t182, .int .u64 t183, .string t184, .slice Ao58 t185.length co58] 26 (0, 0)) (by (with_reducible repeat (first | refine blk_drewN ?_ _ | refine blk_drew ?_ | refine blk_alloc ?_ _)); exact BK188.out) hb)
                        have n4_ := Aside0.mk (below_step (by repeat (first | (with_reducible first | exact HB.out | apply below_alloc | apply pw_below_drewN | apply below_drew1 | refine below_set ?_ GE188.out) | exact HB.out)) hb)
                        clear HO_7
                        clear HO187
                        clear HO194
                        clear BK188
                        clear HB
                        have HO_7 := n0_
                        have HO187 := n1_
                        have HO194 := n2_
                        have BK188 := n3_
                        have HB := n4_
                        clear n0_ n1_ n2_ n3_ n4_
                        (try clear hb)
                        (try clear hb2)
                        (try clear hk)
                        (try clear hi)
                        refine hK.out _ _ ⟨(blk_cell BK188.out 0).trans rfl, (blk_cell BK188.out 1).trans rfl, (blk_cell BK188.out 2).trans rfl, (blk_cell BK188.out 3).trans rfl⟩ (fun hHeld => ?_)
                        clear hK K
                        refine norm_ (a' := ?_) ?_ ?_
                        rotate_left
                        · show Act.put _ (some 70) _ = _
                          simp only [Act.put, List.setIfInBounds_toArray, List.set_cons_zero, List.set_cons_succ, i64_w, i32_w]
                          rfl
                        refine pure_ (i := 4) (N := some 71) (v := ?_) (a' := ?_) #[true, true, true, true, true, false, false, false, false, false, false, false, false, false, false, false, false, false, false, false, false, false] rfl rfl (any_of HT_.out (by kernel_rfl)) (fun _ _ _ h => h) (Or.inl ⟨by rfl, ?_⟩) ?_ ?_
                        rotate_left
                        · intro w'
                          go_simp
                          with_reducible rfl
                        rotate_left
                        · simp only [Act.put, List.setIfInBounds_toArray, List.set_cons_zero, List.set_cons_succ, i64_w, i32_w]
                          rfl
                        refine pure_ (i := 5) (N := some 72) (v := ?_) (a' := ?_) #[true, true, true, true, true, true, false, false, false, false, false, false, false, false, false, false, false, false, false, false, false, false] rfl rfl (any_of HT_.out (by kernel_rfl)) (fun _ _ _ h => h) (Or.inl ⟨by rfl, ?_⟩) ?_ ?_
                        rotate_left
                        · intro w'
                          go_simp
                          with_reducible rfl
                        rotate_left
                        · simp only [Act.put, List.setIfInBounds_toArray, List.set_cons_zero, List.set_cons_succ, i64_w, i32_w]
                          rfl
                        refine pure_ (i := 7) (N := some 74) (v := ?_) (a' := ?_) #[true, true, true, true, true, true, false, true, false, false, false, false, false, false, false, false, false, false, false, false, false, false] rfl rfl (any_of HT_.out (by kernel_rfl)) (fun _ _ _ h => h) (Or.inl ⟨by rfl, ?_⟩) ?_ ?_
                        rotate_left
                        · intro w'
                          go_simp
                          with_reducible rfl
                        rotate_left
                        · simp only [Act.put, List.setIfInBounds_toArray, List.set_cons_zero, List.set_cons_succ, i64_w, i32_w]
                          rfl
                        refine one_ (i := 6) (N := some 73) #[true, true, true, true, true, true, true, true, false, false, false, false, false, false, false, false, false, false, false, false, false, false] rfl rfl (one_of HT_.out (by kernel_rfl)) (by decide) (fun K hK => ?_)
                        refine goes_ Try.func17 (by kernel_rfl) rfl #[.int .u64 a0] (by rfl) rfl rfl (by (try simp only [List.map_toArray, List.map_cons, List.map_nil]); first | done | rfl | (simp only [List.length_drop, List.length_take]; rfl)) ?_
                        with_reducible refine (code_Number.calls a0 t196 t197 t198 t199 _ A24.out).mono ?_
                        rintro e w64 ⟨v200, rfl, ho0, hb⟩
                        refine ⟨_, rfl, ?_⟩
                        have n0_ := Aside0.mk (Kd.R_elder' (by (with_reducible repeat (first | apply Kd.R_alloc | apply Kd.R_drewN | apply Kd.R_drew)); exact HO_7.out) (Kd.R_base ho0) hb)
                        have n1_ := Aside0.mk (Kd.R_elder' (by (with_reducible repeat (first | apply Kd.R_alloc | apply Kd.R_drewN | apply Kd.R_drew)); exact HO187.out) (Kd.R_base ho0) hb)
                        have n2_ := Aside0.mk (Kd.V_elder' (by (with_reducible repeat (first | apply Kd.V_alloc | apply Kd.V_drewN | apply Kd.V_drew)); exact HO194.out) (Kd.R_base ho0) hb)
                        have n3_ := Aside0.mk (Kd.R_lower (Kd.R_newB (Kd.R_new' (Kd.R_new' ho0 (Kd.R_lt (by (with_reducible repeat (first | apply Kd.R_alloc | apply Kd.R_drewN | apply Kd.R_drew)); exact HO_7.out))) (Kd.R_lt (by (with_reducible repeat (first | apply Kd.R_alloc | apply Kd.R_drewN | apply Kd.R_drew)); exact HO187.out))) (g := gb188) (o := .cells #[.int .i64 t182, .int .u64 t183, .string t184, .slice Ao58 t185.length co58] 26 (0, 0)) (by (with_reducible repeat (first | refine blk_drewN ?_ _ | refine blk_drew ?_ | refine blk_alloc ?_ _)); exact BK188.out)) (below_size (by repeat (first | (with_reducible first | exact HB.out | apply below_alloc | apply pw_below_drewN | apply below_drew1 | refine below_set ?_ GE188.out) | exact HB.out))))
                        have n4_ := Aside0.mk (blk_below (g := gb188) (o := .cells #[.int .i64 t182, .int .u64 t183, .string t184, .slice Ao58 t185.length co58] 26 (0, 0)) (by (with_reducible repeat (first | refine blk_drewN ?_ _ | refine blk_drew ?_ | refine blk_alloc ?_ _)); exact BK188.out) hb)
                        have n5_ := Aside0.mk (below_step (by repeat (first | (with_reducible first | exact HB.out | apply below_alloc | apply pw_below_drewN | apply below_drew1 | refine below_set ?_ GE188.out) | exact HB.out)) hb)
                        clear HO_7
                        clear HO187
                        clear HO194
                        clear BK188
                        clear HB
                        have HO_7 := n0_
                        have HO187 := n1_
                        have HO194 := n2_
                        have HO201 := n3_
                        have BK188 := n4_
                        have HB := n5_
                        clear n0_ n1_ n2_ n3_ n4_ n5_
                        (try clear hb)
                        (try clear hb2)
                        (try clear hk)
                        (try clear hi)
                        (try clear ho0)
                        refine hK.out _ _ ⟨(blk_cell BK188.out 0).trans rfl, (blk_cell BK188.out 1).trans rfl, (blk_cell BK188.out 2).trans rfl, (blk_cell BK188.out 3).trans rfl⟩ (fun hHeld => ?_)
                        clear hK K
                        refine norm_ (a' := ?_) ?_ ?_
                        rotate_left
                        · show Act.put _ (some 73) _ = _
                          simp only [Act.put, List.setIfInBounds_toArray, List.set_cons_zero, List.set_cons_succ, i64_w, i32_w]
                          rfl
                        refine one_ (i := 8) (N := some 75) #[true, true, true, true, true, true, true, true, true, false, false, false, false, false, false, false, false, false, false, false, false, false] rfl rfl (one_of HT_.out (by kernel_rfl)) (by decide) (fun K hK => ?_)
                        refine goes_ Try.func18 (by kernel_rfl) rfl #[.int .u64 a0] (by rfl) rfl rfl (by (try simp only [List.map_toArray, List.map_cons, List.map_nil]); first | done | rfl | (simp only [List.length_drop, List.length_take]; rfl)) ?_
                        with_reducible refine (minstrelref07_Number.calls a0 t202 t203 t204 t205 _ A25.out).mono ?_
                        rintro e w65 ⟨v206, rfl, ho0, hb⟩
                        refine ⟨_, rfl, ?_⟩
                        have n0_ := Aside0.mk (Kd.R_elder' (by (with_reducible repeat (first | apply Kd.R_alloc | apply Kd.R_drewN | apply Kd.R_drew)); exact HO_7.out) (Kd.R_base ho0) hb)
                        have n1_ := Aside0.mk (Kd.R_elder' (by (with_reducible repeat (first | apply Kd.R_alloc | apply Kd.R_drewN | apply Kd.R_drew)); exact HO187.out) (Kd.R_base ho0) hb)
                        have n2_ := Aside0.mk (Kd.V_elder' (by (with_reducible repeat (first | apply Kd.V_alloc | apply Kd.V_drewN | apply Kd.V_drew)); exact HO194.out) (Kd.R_base ho0) hb)
                        have n3_ := Aside0.mk (Kd.R_elder' (by (with_reducible repeat (first | apply Kd.R_alloc | apply Kd.R_drewN | apply Kd.R_drew)); exact HO201.out) (Kd.R_base ho0) hb)
                        have n4_ := Aside0.mk (Kd.R_lower (Kd.R_newB (Kd.R_new' (Kd.R_new' (Kd.R_new' ho0 (Kd.R_lt (by (with_reducible repeat (first | apply Kd.R_alloc | apply Kd.R_drewN | apply Kd.R_drew)); exact HO_7.out))) (Kd.R_lt (by (with_reducible repeat (first | apply Kd.R_alloc | apply Kd.R_drewN | apply Kd.R_drew)); exact HO187.out))) (Kd.R_lt (by (with_reducible repeat (first | apply Kd.R_alloc | apply Kd.R_drewN | apply Kd.R_drew)); exact HO201.out))) (g := gb188) (o := .cells #[.int .i64 t182, .int .u64 t183, .string t184, .slice Ao58 t185.length co58] 26 (0, 0)) (by (with_reducible repeat (first | refine blk_drewN ?_ _ | refine blk_drew ?_ | refine blk_alloc ?_ _)); exact BK188.out)) (below_size (by repeat (first | (with_reducible first | exact HB.out | apply below_alloc | apply pw_below_drewN | apply below_drew1 | refine below_set ?_ GE188.out) | exact HB.out))))
                        have n5_ := Aside0.mk (blk_below (g := gb188) (o := .cells #[.int .i64 t182, .int .u64 t183, .string t184, .slice Ao58 t185.length co58] 26 (0, 0)) (by (with_reducible repeat (first | refine blk_drewN ?_ _ | refine blk_drew ?_ | refine blk_alloc ?_ _)); exact BK188.out) hb)
                        have n6_ := Aside0.mk (below_step (by repeat (first | (with_reducible first | exact HB.out | apply below_alloc | apply pw_below_drewN | apply below_drew1 | refine below_set ?_ GE188.out) | exact HB.out)) hb)
                        clear HO_7
                        clear HO187
                        clear HO194
                        clear HO201
                        clear BK188
                        clear HB
                        have HO_7 := n0_
                        have HO187 := n1_
                        have HO194 := n2_
                        have HO201 := n3_
                        have HO207 := n4_
                        have BK188 := n5_
                        have HB := n6_
                        clear n0_ n1_ n2_ n3_ n4_ n5_ n6_
                        (try clear hb)
                        (try clear hb2)
                        (try clear hk)
                        (try clear hi)
                        (try clear ho0)
                        obtain ⟨Ao66, co66, eo66⟩ := Kd.R_slice HO201.out
                        (first | subst eo66 | (injection eo66 with f1_ f2_ f3_; have f4_ := f1_.symm; have f5_ := f3_.symm; clear f1_ f2_ f3_; subst f4_; subst f5_))
                        obtain ⟨Ao67, co67, eo67⟩ := Kd.R_slice HO207.out
                        (first | subst eo67 | (injection eo67 with f1_ f2_ f3_; have f4_ := f1_.symm; have f5_ := f3_.symm; clear f1_ f2_ f3_; subst f4_; subst f5_))
                        refine hK.out _ _ ⟨(blk_cell BK188.out 0).trans rfl, (blk_cell BK188.out 1).trans rfl, (blk_cell BK188.out 2).trans rfl, (blk_cell BK188.out 3).trans rfl⟩ (fun hHeld => ?_)
                        clear hK K
                        refine norm_ (a' := ?_) ?_ ?_
                        rotate_left
                        · show Act.put _ (some 75) _ = _
                          simp only [Act.put, List.setIfInBounds_toArray, List.set_cons_zero, List.set_cons_succ, i64_w, i32_w]
                          rfl
                        refine one_ (i := 9) (N := some 76) #[true, true, true, true, true, true, true, true, true, true, false, false, false, false, false, false, false, false, false, false, false, false] rfl rfl (one_of HT_.out (by kernel_rfl)) (by decide) (fun K hK => ?_)
                        refine goes_ Try.func10 (by kernel_rfl) rfl #[.agg #[.int .i64 t196, .int .u64 t197, .string t198, .slice Ao66 t199.length co66], .agg #[.int .i64 t202, .int .u64 t203, .string t204, .slice Ao67 t205.length co67]] (by rfl) rfl rfl (by (try simp only [List.map_toArray, List.map_cons, List.map_nil]); first | done | rfl | (simp only [List.length_drop, List.length_take]; rfl)) ?_
                        with_reducible refine (minstrelref07_Same.calls k2 t196 t197 t198 _ _ t199 t202 t203 t204 _ _ t205 true _ ?side1 ?side2 ?side3 ?side4 A26.out).mono ?_
                        (case side1 => repeat (first | exact (Kd.R_reads' HO201.out).2.2 | (with_reducible refine Kd.C_alloc ?_ _) | (with_reducible refine Kd.C_drewN ?_ _) | (with_reducible refine Kd.C_drew ?_)))
                        (case side2 => exact (Kd.R_reads' HO201.out).2.1)
                        (case side3 => repeat (first | exact (Kd.R_reads' HO207.out).2.2 | (with_reducible refine Kd.C_alloc ?_ _) | (with_reducible refine Kd.C_drewN ?_ _) | (with_reducible refine Kd.C_drew ?_)))
                        (case side4 => exact (Kd.R_reads' HO207.out).2.1)
                        rintro e w68 ⟨rfl, hb⟩
                        refine ⟨_, rfl, ?_⟩
                        have n0_ := Aside0.mk (Kd.R_below (by (with_reducible repeat (first | apply Kd.R_alloc | apply Kd.R_drewN | apply Kd.R_drew)); exact HO_7.out) hb)
                        have n1_ := Aside0.mk (Kd.R_below (by (with_reducible repeat (first | apply Kd.R_alloc | apply Kd.R_drewN | apply Kd.R_drew)); exact HO187.out) hb)
                        have n2_ := Aside0.mk (Kd.V_below (by (with_reducible repeat (first | apply Kd.V_alloc | apply Kd.V_drewN | apply Kd.V_drew)); exact HO194.out) hb)
                        have n3_ := Aside0.mk (Kd.R_below (by (with_reducible repeat (first | apply Kd.R_alloc | apply Kd.R_drewN | apply Kd.R_drew)); exact HO201.out) hb)
                        have n4_ := Aside0.mk (Kd.R_below (by (with_reducible repeat (first | apply Kd.R_alloc | apply Kd.R_drewN | apply Kd.R_drew)); exact HO207.out) hb)
                        have n5_ := Aside0.mk (blk_below (g := gb188) (o := .cells #[.int .i64 t182, .int .u64 t183, .string t184, .slice Ao58 t185.length co58] 26 (0, 0)) (by (with_reducible repeat (first | refine blk_drewN ?_ _ | refine blk_drew ?_ | refine blk_alloc ?_ _)); exact BK188.out) hb)
                        have n6_ := Aside0.mk (below_step (by repeat (first | (with_reducible first | exact HB.out | apply below_alloc | apply pw_below_drewN | apply below_drew1 | refine below_set ?_ GE188.out) | exact HB.out)) hb)
                        clear HO_7
                        clear HO187
                        clear HO194
                        clear HO201
                        clear HO207
                        clear BK188
                        clear HB
                        have HO_7 := n0_
                        have HO187 := n1_
                        have HO194 := n2_
                        have HO201 := n3_
                        have HO207 := n4_
                        have BK188 := n5_
                        have HB := n6_
                        clear n0_ n1_ n2_ n3_ n4_ n5_ n6_
                        (try clear hb)
                        (try clear hb2)
                        (try clear hk)
                        (try clear hi)
                        refine hK.out _ _ ⟨(blk_cell BK188.out 0).trans rfl, (blk_cell BK188.out 1).trans rfl, (blk_cell BK188.out 2).trans rfl, (blk_cell BK188.out 3).trans rfl⟩ (fun hHeld => ?_)
                        clear hK K
                        refine norm_ (a' := ?_) ?_ ?_
                        rotate_left
                        · show Act.put _ (some 76) _ = _
                          simp only [Act.put, List.setIfInBounds_toArray, List.set_cons_zero, List.set_cons_succ, i64_w, i32_w]
                          rfl
                        refine pure_ (i := 10) (N := some 77) (v := ?_) (a' := ?_) #[true, true, true, true, true, true, true, true, true, true, true, false, false, false, false, false, false, false, false, false, false, false] rfl rfl (any_of HT_.out (by kernel_rfl)) (fun _ _ _ h => h) (Or.inl ⟨by rfl, ?_⟩) ?_ ?_
                        rotate_left
                        · intro w'
                          go_simp
                          with_reducible rfl
                        rotate_left
                        · simp only [Act.put, List.setIfInBounds_toArray, List.set_cons_zero, List.set_cons_succ, i64_w, i32_w]
                          rfl
                        refine pure_ (i := 11) (N := some 78) (v := ?_) (a' := ?_) #[true, true, true, true, true, true, true, true, true, true, true, true, false, false, false, false, false, false, false, false, false, false] rfl rfl (any_of HT_.out (by kernel_rfl)) (fun _ _ _ h => h) (Or.inl ⟨by rfl, ?_⟩) ?_ ?_
                        rotate_left
                        · intro w'
                          go_simp
                          with_reducible rfl
                        rotate_left
                        · simp only [Act.put, List.setIfInBounds_toArray, List.set_cons_zero, List.set_cons_succ, i64_w, i32_w]
                          rfl
                        refine pure_ (i := 12) (N := some 79) (v := ?_) (a' := ?_) #[true, true, true, true, true, true, true, true, true, true, true, true, true, false, false, false, false, false, false, false, false, false] rfl rfl (any_of HT_.out (by kernel_rfl)) (fun _ _ _ h => h) (Or.inl ⟨by rfl, ?_⟩) ?_ ?_
                        rotate_left
                        · intro w'
                          go_simp
                          with_reducible rfl
                        rotate_left
                        · simp only [Act.put, List.setIfInBounds_toArray, List.set_cons_zero, List.set_cons_succ, i64_w, i32_w]
                          rfl
                        refine pure_ (i := 14) (N := some 81) (v := ?_) (a' := ?_) #[true, true, true, true, true, true, true, true, true, true, true, true, true, false, true, false, false, false, false, false, false, false] rfl rfl (any_of HT_.out (by kernel_rfl)) (fun _ _ _ h => h) (Or.inl ⟨by rfl, ?_⟩) ?_ ?_
                        rotate_left
                        · intro w'
                          go_simp
                          with_reducible rfl
                        rotate_left
                        · simp only [Act.put, List.setIfInBounds_toArray, List.set_cons_zero, List.set_cons_succ, i64_w, i32_w]
                          rfl
                        refine one_ (i := 13) (N := some 80) #[true, true, true, true, true, true, true, true, true, true, true, true, true, true, true, false, false, false, false, false, false, false] rfl rfl (one_of HT_.out (by kernel_rfl)) (by decide) (fun K hK => ?_)
                        refine goes_ Try.func19 (by kernel_rfl) rfl #[.string a1] (by rfl) rfl rfl (by (try simp only [List.map_toArray, List.map_cons, List.map_nil]); first | done | rfl | (simp only [List.length_drop, List.length_take]; rfl)) ?_
                        with_reducible refine (code_Text.calls a1 t209 t210 t211 t212 _ A28.out).mono ?_
                        rintro e w69 ⟨v213, rfl, ho0, hb⟩
                        refine ⟨_, rfl, ?_⟩
                        have n0_ := Aside0.mk (Kd.R_elder' (by (with_reducible repeat (first | apply Kd.R_alloc | apply Kd.R_drewN | apply Kd.R_drew)); exact HO_7.out) (Kd.R_base ho0) hb)
                        have n1_ := Aside0.mk (Kd.R_elder' (by (with_reducible repeat (first | apply Kd.R_alloc | apply Kd.R_drewN | apply Kd.R_drew)); exact HO187.out) (Kd.R_base ho0) hb)
                        have n2_ := Aside0.mk (Kd.V_elder' (by (with_reducible repeat (first | apply Kd.V_alloc | apply Kd.V_drewN | apply Kd.V_drew)); exact HO194.out) (Kd.R_base ho0) hb)
                        have n3_ := Aside0.mk (Kd.R_elder' (by (with_reducible repeat (first | apply Kd.R_alloc | apply Kd.R_drewN | apply Kd.R_drew)); exact HO201.out) (Kd.R_base ho0) hb)
                        have n4_ := Aside0.mk (Kd.R_elder' (by (with_reducible repeat (first | apply Kd.R_alloc | apply Kd.R_drewN | apply Kd.R_drew)); exact HO207.out) (Kd.R_base ho0) hb)
                        have n5_ := Aside0.mk (Kd.R_lower (Kd.R_newB (Kd.R_new' (Kd.R_new' (Kd.R_new' (Kd.R_new' ho0 (Kd.R_lt (by (with_reducible repeat (first | apply Kd.R_alloc | apply Kd.R_drewN | apply Kd.R_drew)); exact HO_7.out))) (Kd.R_lt (by (with_reducible repeat (first | apply Kd.R_alloc | apply Kd.R_drewN | apply Kd.R_drew)); exact HO187.out))) (Kd.R_lt (by (with_reducible repeat (first | apply Kd.R_alloc | apply Kd.R_drewN | apply Kd.R_drew)); exact HO201.out))) (Kd.R_lt (by (with_reducible repeat (first | apply Kd.R_alloc | apply Kd.R_drewN | apply Kd.R_drew)); exact HO207.out))) (g := gb188) (o := .cells #[.int .i64 t182, .int .u64 t183, .string t184, .slice Ao58 t185.length co58] 26 (0, 0)) (by (with_reducible repeat (first | refine blk_drewN ?_ _ | refine blk_drew ?_ | refine blk_alloc ?_ _)); exact BK188.out)) (below_size (by repeat (first | (with_reducible first | exact HB.out | apply below_alloc | apply pw_below_drewN | apply below_drew1 | refine below_set ?_ GE188.out) | exact HB.out))))
                        have n6_ := Aside0.mk (blk_below (g := gb188) (o := .cells #[.int .i64 t182, .int .u64 t183, .string t184, .slice Ao58 t185.length co58] 26 (0, 0)) (by (with_reducible repeat (first | refine blk_drewN ?_ _ | refine blk_drew ?_ | refine blk_alloc ?_ _)); exact BK188.out) hb)
                        have n7_ := Aside0.mk (below_step (by repeat (first | (with_reducible first | exact HB.out | apply below_alloc | apply pw_below_drewN | apply below_drew1 | refine below_set ?_ GE188.out) | exact HB.out)) hb)
                        clear HO_7
                        clear HO187
                        clear HO194
                        clear HO201
                        clear HO207
                        clear BK188
                        clear HB
                        have HO_7 := n0_
                        have HO187 := n1_
                        have HO194 := n2_
                        have HO201 := n3_
                        have HO207 := n4_
                        have HO214 := n5_
                        have BK188 := n6_
                        have HB := n7_
                        clear n0_ n1_ n2_ n3_ n4_ n5_ n6_ n7_
                        (try clear hb)
                        (try clear hb2)
                        (try clear hk)
                        (try clear hi)
                        (try clear ho0)
                        refine hK.out _ _ ⟨(blk_cell BK188.out 0).trans rfl, (blk_cell BK188.out 1).trans rfl, (blk_cell BK188.out 2).trans rfl, (blk_cell BK188.out 3).trans rfl⟩ (fun hHeld => ?_)
                        clear hK K
                        refine norm_ (a' := ?_) ?_ ?_
                        rotate_left
                        · show Act.put _ (some 80) _ = _
                          simp only [Act.put, List.setIfInBounds_toArray, List.set_cons_zero, List.set_cons_succ, i64_w, i32_w]
                          rfl
                        refine one_ (i := 15) (N := some 82) #[true, true, true, true, true, true, true, true, true, true, true, true, true, true, true, true, false, false, false, false, false, false] rfl rfl (one_of HT_.out (by kernel_rfl)) (by decide) (fun K hK => ?_)
                        refine goes_ Try.func20 (by kernel_rfl) rfl #[.string a1] (by rfl) rfl rfl (by (try simp only [List.map_toArray, List.map_cons, List.map_nil]); first | done | rfl | (simp only [List.length_drop, List.length_take]; rfl)) ?_
                        with_reducible refine (minstrelref07_Text.calls a1 t215 t216 t217 t218 _ A29.out).mono ?_
                        rintro e w70 ⟨v219, rfl, ho0, hb⟩
                        refine ⟨_, rfl, ?_⟩
                        have n0_ := Aside0.mk (Kd.R_elder' (by (with_reducible repeat (first | apply Kd.R_alloc | apply Kd.R_drewN | apply Kd.R_drew)); exact HO_7.out) (Kd.R_base ho0) hb)
                        have n1_ := Aside0.mk (Kd.R_elder' (by (with_reducible repeat (first | apply Kd.R_alloc | apply Kd.R_drewN | apply Kd.R_drew)); exact HO187.out) (Kd.R_base ho0) hb)
                        have n2_ := Aside0.mk (Kd.V_elder' (by (with_reducible repeat (first | apply Kd.V_alloc | apply Kd.V_drewN | apply Kd.V_drew)); exact HO194.out) (Kd.R_base ho0) hb)
                        have n3_ := Aside0.mk (Kd.R_elder' (by (with_reducible repeat (first | apply Kd.R_alloc | apply Kd.R_drewN | apply Kd.R_drew)); exact HO201.out) (Kd.R_base ho0) hb)
                        have n4_ := Aside0.mk (Kd.R_elder' (by (with_reducible repeat (first | apply Kd.R_alloc | apply Kd.R_drewN | apply Kd.R_drew)); exact HO207.out) (Kd.R_base ho0) hb)
                        have n5_ := Aside0.mk (Kd.R_elder' (by (with_reducible repeat (first | apply Kd.R_alloc | apply Kd.R_drewN | apply Kd.R_drew)); exact HO214.out) (Kd.R_base ho0) hb)
                        have n6_ := Aside0.mk (Kd.R_lower (Kd.R_newB (Kd.R_new' (Kd.R_new' (Kd.R_new' (Kd.R_new' (Kd.R_new' ho0 (Kd.R_lt (by (with_reducible repeat (first | apply Kd.R_alloc | apply Kd.R_drewN | apply Kd.R_drew)); exact HO_7.out))) (Kd.R_lt (by (with_reducible repeat (first | apply Kd.R_alloc | apply Kd.R_drewN | apply Kd.R_drew)); exact HO187.out))) (Kd.R_lt (by (with_reducible repeat (first | apply Kd.R_alloc | apply Kd.R_drewN | apply Kd.R_drew)); exact HO201.out))) (Kd.R_lt (by (with_reducible repeat (first | apply Kd.R_alloc | apply Kd.R_drewN | apply Kd.R_drew)); exact HO207.out))) (Kd.R_lt (by (with_reducible repeat (first | apply Kd.R_alloc | apply Kd.R_drewN | apply Kd.R_drew)); exact HO214.out))) (g := gb188) (o := .cells #[.int .i64 t182, .int .u64 t183, .string t184, .slice Ao58 t185.length co58] 26 (0, 0)) (by (with_reducible repeat (first | refine blk_drewN ?_ _ | refine blk_drew ?_ | refine blk_alloc ?_ _)); exact BK188.out)) (below_size (by repeat (first | (with_reducible first | exact HB.out | apply below_alloc | apply pw_below_drewN | apply below_drew1 | refine below_set ?_ GE188.out) | exact HB.out))))
                        have n7_ := Aside0.mk (blk_below (g := gb188) (o := .cells #[.int .i64 t182, .int .u64 t183, .string t184, .slice Ao58 t185.length co58] 26 (0, 0)) (by (with_reducible repeat (first | refine blk_drewN ?_ _ | refine blk_drew ?_ | refine blk_alloc ?_ _)); exact BK188.out) hb)
                        have n8_ := Aside0.mk (below_step (by repeat (first | (with_reducible first | exact HB.out | apply below_alloc | apply pw_below_drewN | apply below_drew1 | refine below_set ?_ GE188.out) | exact HB.out)) hb)
                        clear HO_7
                        clear HO187
                        clear HO194
                        clear HO201
                        clear HO207
                        clear HO214
                        clear BK188
                        clear HB
                        have HO_7 := n0_
                        have HO187 := n1_
                        have HO194 := n2_
                        have HO201 := n3_
                        have HO207 := n4_
                        have HO214 := n5_
                        have HO220 := n6_
                        have BK188 := n7_
                        have HB := n8_
                        clear n0_ n1_ n2_ n3_ n4_ n5_ n6_ n7_ n8_
                        (try clear hb)
                        (try clear hb2)
                        (try clear hk)
                        (try clear hi)
                        (try clear ho0)
                        obtain ⟨Ao71, co71, eo71⟩ := Kd.R_slice HO214.out
                        (first | subst eo71 | (injection eo71 with f1_ f2_ f3_; have f4_ := f1_.symm; have f5_ := f3_.symm; clear f1_ f2_ f3_; subst f4_; subst f5_))
                        obtain ⟨Ao72, co72, eo72⟩ := Kd.R_slice HO220.out
                        (first | subst eo72 | (injection eo72 with f1_ f2_ f3_; have f4_ := f1_.symm; have f5_ := f3_.symm; clear f1_ f2_ f3_; subst f4_; subst f5_))
                        refine hK.out _ _ ⟨(blk_cell BK188.out 0).trans rfl, (blk_cell BK188.out 1).trans rfl, (blk_cell BK188.out 2).trans rfl, (blk_cell BK188.out 3).trans rfl⟩ (fun hHeld => ?_)
                        clear hK K
                        refine norm_ (a' := ?_) ?_ ?_
                        rotate_left
                        · show Act.put _ (some 82) _ = _
                          simp only [Act.put, List.setIfInBounds_toArray, List.set_cons_zero, List.set_cons_succ, i64_w, i32_w]
                          rfl
                        refine one_ (i := 16) (N := some 83) #[true, true, true, true, true, true, true, true, true, true, true, true, true, true, true, true, true, false, false, false, false, false] rfl rfl (one_of HT_.out (by kernel_rfl)) (by decide) (fun K hK => ?_)
                        refine goes_ Try.func10 (by kernel_rfl) rfl #[.agg #[.int .i64 t209, .int .u64 t210, .string t211, .slice Ao71 t212.length co71], .agg #[.int .i64 t215, .int .u64 t216, .string t217, .slice Ao72 t218.length co72]] (by rfl) rfl rfl (by (try simp only [List.map_toArray, List.map_cons, List.map_nil]); first | done | rfl | (simp only [List.length_drop, List.length_take]; rfl)) ?_
                        with_reducible refine (minstrelref07_Same.calls k2 t209 t210 t211 _ _ t212 t215 t216 t217 _ _ t218 false _ ?side1 ?side2 ?side3 ?side4 A30.out).mono ?_
                        (case side1 => repeat (first | exact (Kd.R_reads' HO214.out).2.2 | (with_reducible refine Kd.C_alloc ?_ _) | (with_reducible refine Kd.C_drewN ?_ _) | (with_reducible refine Kd.C_drew ?_)))
                        (case side2 => exact (Kd.R_reads' HO214.out).2.1)
                        (case side3 => repeat (first | exact (Kd.R_reads' HO220.out).2.2 | (with_reducible refine Kd.C_alloc ?_ _) | (with_reducible refine Kd.C_drewN ?_ _) | (with_reducible refine Kd.C_drew ?_)))
                        (case side4 => exact (Kd.R_reads' HO220.out).2.1)
                        rintro e w73 ⟨rfl, hb⟩
                        refine ⟨_, rfl, ?_⟩
                        have n0_ := Aside0.mk (Kd.R_below (by (with_reducible repeat (first | apply Kd.R_alloc | apply Kd.R_drewN | apply Kd.R_drew)); exact HO_7.out) hb)
                        have n1_ := Aside0.mk (Kd.R_below (by (with_reducible repeat (first | apply Kd.R_alloc | apply Kd.R_drewN | apply Kd.R_drew)); exact HO187.out) hb)
                        have n2_ := Aside0.mk (Kd.V_below (by (with_reducible repeat (first | apply Kd.V_alloc | apply Kd.V_drewN | apply Kd.V_drew)); exact HO194.out) hb)
                        have n3_ := Aside0.mk (Kd.R_below (by (with_reducible repeat (first | apply Kd.R_alloc | apply Kd.R_drewN | apply Kd.R_drew)); exact HO201.out) hb)
                        have n4_ := Aside0.mk (Kd.R_below (by (with_reducible repeat (first | apply Kd.R_alloc | apply Kd.R_drewN | apply Kd.R_drew)); exact HO207.out) hb)
                        have n5_ := Aside0.mk (Kd.R_below (by (with_reducible repeat (first | apply Kd.R_alloc | apply Kd.R_drewN | apply Kd.R_drew)); exact HO214.out) hb)
                        have n6_ := Aside0.mk (Kd.R_below (by (with_reducible repeat (first | apply Kd.R_alloc | apply Kd.R_drewN | apply Kd.R_drew)); exact HO220.out) hb)
                        have n7_ := Aside0.mk (blk_below (g := gb188) (o := .cells #[.int .i64 t182, .int .u64 t183, .string t184, .slice Ao58 t185.length co58] 26 (0, 0)) (by (with_reducible repeat (first | refine blk_drewN ?_ _ | refine blk_drew ?_ | refine blk_alloc ?_ _)); exact BK188.out) hb)
                        have n8_ := Aside0.mk (below_step (by repeat (first | (with_reducible first | exact HB.out | apply below_alloc | apply pw_below_drewN | apply below_drew1 | refine below_set ?_ GE188.out) | exact HB.out)) hb)
                        clear HO_7
                        clear HO187
                        clear HO194
                        clear HO201
                        clear HO207
                        clear HO214
                        clear HO220
                        clear BK188
                        clear HB
                        have HO_7 := n0_
                        have HO187 := n1_
                        have HO194 := n2_
                        have HO201 := n3_
                        have HO207 := n4_
                        have HO214 := n5_
                        have HO220 := n6_
                        have BK188 := n7_
                        have HB := n8_
                        clear n0_ n1_ n2_ n3_ n4_ n5_ n6_ n7_ n8_
                        (try clear hb)
                        (try clear hb2)
                        (try clear hk)
                        (try clear hi)
                        refine hK.out _ _ ⟨(blk_cell BK188.out 0).trans rfl, (blk_cell BK188.out 1).trans rfl, (blk_cell BK188.out 2).trans rfl, (blk_cell BK188.out 3).trans rfl⟩ (fun hHeld => ?_)
                        clear hK K
                        refine norm_ (a' := ?_) ?_ ?_
                        rotate_left
                        · show Act.put _ (some 83) _ = _
                          simp only [Act.put, List.setIfInBounds_toArray, List.set_cons_zero, List.set_cons_succ, i64_w, i32_w]
                          rfl
                        refine pure_ (i := 17) (N := some 84) (v := ?_) (a' := ?_) #[true, true, true, true, true, true, true, true, true, true, true, true, true, true, true, true, true, true, false, false, false, false] rfl rfl (any_of HT_.out (by kernel_rfl)) (fun _ _ _ h => h) (Or.inl ⟨by rfl, ?_⟩) ?_ ?_
                        rotate_left
                        · intro w'
                          go_simp
                          with_reducible rfl
                        rotate_left
                        · simp only [Act.put, List.setIfInBounds_toArray, List.set_cons_zero, List.set_cons_succ, i64_w, i32_w]
                          rfl
                        refine pure_ (i := 18) (N := some 85) (v := ?_) (a' := ?_) #[true, true, true, true, true, true, true, true, true, true, true, true, true, true, true, true, true, true, true, false, false, false] rfl rfl (any_of HT_.out (by kernel_rfl)) (fun _ _ _ h => h) (Or.inl ⟨by rfl, ?_⟩) ?_ ?_
                        rotate_left
                        · intro w'
                          go_simp
                          with_reducible rfl
                        rotate_left
                        · simp only [Act.put, List.setIfInBounds_toArray, List.set_cons_zero, List.set_cons_succ, i64_w, i32_w]
                          rfl
                        refine pure_ (i := 19) (N := some 86) (v := undef) (a' := ?_) #[true, true, true, true, true, true, true, true, true, true, true, true, true, true, true, true, true, true, true, true, false, false] rfl rfl (any_of HT_.out (by kernel_rfl)) (fun _ _ _ h => h) (Or.inr ⟨by rfl, rfl⟩) ?_ ?_
                        rotate_left
                        · simp only [Act.put, List.setIfInBounds_toArray, List.set_cons_zero, List.set_cons_succ, i64_w, i32_w]
                          rfl
                        refine pure_ (i := 20) (N := some 87) (v := ?_) (a' := ?_) #[true, true, true, true, true, true, true, true, true, true, true, true, true, true, true, true, true, true, true, true, true, false] rfl rfl (any_of HT_.out (by kernel_rfl)) (fun _ _ _ h => h) (Or.inl ⟨by rfl, ?_⟩) ?_ ?_
                        rotate_left
                        · intro w'
                          go_simp
                          with_reducible rfl
                        rotate_left
                        · simp only [Act.put, List.setIfInBounds_toArray, List.set_cons_zero, List.set_cons_succ, i64_w, i32_w]
                          rfl
                        refine pure_ (i := 21) (N := some 6) (v := ?_) (a' := ?_) #[true, true, true, true, true, true, true, true, true, true, true, true, true, true, true, true, true, true, true, true, true, true] rfl rfl (any_of HT_.out (by kernel_rfl)) (fun _ _ _ h => h) (Or.inl ⟨by rfl, ?_⟩) ?_ ?_
                        rotate_left
                        · intro w'
                          go_simp
                          with_reducible rfl
                        rotate_left
                        · simp only [Act.put, List.setIfInBounds_toArray, List.set_cons_zero, List.set_cons_succ, i64_w, i32_w]
                          rfl
                        refine done_ (done_of HT_.out (by kernel_rfl)) ?_
                        try go_wp2
                        go_ret
                        exact ⟨by first | rfl | (simp [errW_none, errW_some] <;> rfl) | (simp [*, errW_none, errW_some] <;> rfl), by repeat (first | (with_reducible first | exact HB.out | apply below_alloc | apply pw_below_drewN | apply below_drew1 | refine below_set ?_ GE188.out) | exact HB.out)⟩
                      | succ j10 =>
                        obtain ⟨I, hI, hIj, hM⟩ := HM.out
                        obtain ⟨g7, eA, M⟩ : ∃ g, Ao54 = some ⟨g, 0, none⟩ ∧ MkInv w.heap.size Bm g x7_2.length I w59 wr := hM.resolve_left (fun h => by omega)
                        subst eA
                        clear HM hM
                        obtain ⟨cs7, hc7, hs7, hel⟩ := M.row
                        obtain ⟨v3, hv3, A3, n3, c3, e3, hEl⟩ := hel I (Nat.le_refl _) (by omega)
                        subst e3
                        clear hel hEl
                        have b10 : decide (i10 < (x7_2.length : Int)) = true := decide_eq_true (by omega)
                        have p10 : (0 ≤ i10) = True := eq_true (by omega)
                        have q10 : (i10 < (x7_2.length : Int)) = True := eq_true (by omega)
                        have hx7 : wr.cell? ⟨g7, i10.toNat * 4 + 3, none⟩ = some (.slice A3 n3 c3) := by rw [hI, Int.toNat_natCast]; exact (blk_cell hc7 _).trans hv3
                        have HI := Aside0.mk (And.intro hI hIj)
                        have AM : Aside0 (MkInv w.heap.size Bm g7 x7_2.length I w59 wr ∧ wr.heap[g7]? = some (.cells cs7 26 (0, 0))) := ⟨M, hc7⟩
                        have HV := Aside0.mk (And.intro hv3 hs7)
                        clear hI hIj M hc7 hv3 hs7
                        go_wp2
                        clear hx7
                        go_loopg [11] n3 (fun j v11 w' => ∃ i : Int, v11 = .int .i64 i ∧ Aside0 (∃ K : Nat, i = (K : Int) ∧ K + j = n3) ∧ Aside0 (MkInv w.heap.size Bm g7 x7_2.length I w59 w' ∧ w'.heap[g7]? = some (.cells cs7 26 (0, 0))))
                        case atStart => exact ⟨0, rfl, ⟨0, rfl, by omega⟩, AM⟩
                        case round =>
                          clear AM
                          obtain ⟨i11, rfl, HK, AM⟩ := hrel
                          have hx7 : wr.cell? ⟨g7, i10.toNat * 4 + 3, none⟩ = some (.slice A3 n3 c3) := by rw [HI.out.1, Int.toNat_natCast]; exact (blk_cell AM.out.2 _).trans HV.out.1
                          cases gk with
                          | zero =>
                            have b11 : decide (i11 < (n3 : Int)) = false := decide_eq_false (by obtain ⟨K, h1, h2⟩ := HK.out; omega)
                            obtain ⟨u0, hu0⟩ := cell_in AM.out.2 (i10.toNat * 4) (by have := HI.out.1; have := HI.out.2; have := HV.out.2; omega)
                            obtain ⟨u1, hu1⟩ := cell_in AM.out.2 (i10.toNat * 4 + 1) (by have := HI.out.1; have := HI.out.2; have := HV.out.2; omega)
                            obtain ⟨u2, hu2⟩ := cell_in AM.out.2 (i10.toNat * 4 + 2) (by have := HI.out.1; have := HI.out.2; have := HV.out.2; omega)
                            have hf0 := blk_frozen AM.out.2 (i10.toNat * 4)
                            have hf1 := blk_frozen AM.out.2 (i10.toNat * 4 + 1)
                            have hf2 := blk_frozen AM.out.2 (i10.toNat * 4 + 2)
                            have hf3 := blk_frozen AM.out.2 (i10.toNat * 4 + 3)
                            have HW10 : Aside0 (wrap64 (i10 + 1) = ((I + 1 : Nat) : Int)) := ⟨by have h1 := HI.out.1; have h2 := HI.out.2; have h3 := AM.out.1.nle; simp only [maxLen] at h3; unfold wrap64; omega⟩
                            go_wp2
                            go_roundg j10
                            case measure => omega
                            case rel => exact ⟨_, rfl, ⟨I + 1, HW10.out, by have := HI.out.2; omega, .inr ⟨g7, rfl, AM.out.1.next.set4 g7 (i10.toNat * 4) _ _ _ _ AM.out.1.glo AM.out.1.ghi (fun _ => by have := HI.out.1; omega)⟩⟩⟩
                          | succ j11 =>
                            obtain ⟨K, hK, hKj⟩ := HK.out
                            obtain ⟨b11, csb, eb, hcb, hsb, hbg, hblo, hbhi, hbm⟩ := AM.out.1.el AM.out.2 HV.out.1 (by have := HI.out.2; omega) (by omega)
                            subst eb
                            clear HK
                            have b11_ : decide (i11 < (n3 : Int)) = true := decide_eq_true (by omega)
                            have p11 : (0 ≤ i11) = True := eq_true (by omega)
                            have q11 : (i11 < (n3 : Int)) = True := eq_true (by omega)
                            obtain ⟨u0, hu0⟩ := cell_in hcb (i11.toNat * 4) (by omega)
                            obtain ⟨u1, hu1⟩ := cell_in hcb (i11.toNat * 4 + 1) (by omega)
                            obtain ⟨u2, hu2⟩ := cell_in hcb (i11.toNat * 4 + 2) (by omega)
                            obtain ⟨u3, hu3⟩ := cell_in hcb (i11.toNat * 4 + 3) (by omega)
                            have hf0 := blk_frozen hcb (i11.toNat * 4)
                            have hf1 := blk_frozen hcb (i11.toNat * 4 + 1)
                            have hf2 := blk_frozen hcb (i11.toNat * 4 + 2)
                            have hf3 := blk_frozen hcb (i11.toNat * 4 + 3)
                            have HW11 : Aside0 (wrap64 (i11 + 1) = ((K + 1 : Nat) : Int)) := ⟨by simp only [maxLen] at hbm; unfold wrap64; omega⟩
                            have HF : Aside0 (b11 ≠ g7 ∧ w.heap.size ≤ b11 ∧ b11 < Bm ∧ K + 1 + j11 = n3) := ⟨hbg, hblo, hbhi, by omega⟩
                            clear hK hKj hsb hbm hbg hblo hbhi
                            go_wp2
                            go_roundg j11
                            case measure => omega
                            case rel => exact ⟨_, rfl, ⟨K + 1, HW11.out, HF.out.2.2.2⟩, ⟨AM.out.1.set4 b11 (i11.toNat * 4) _ _ _ _ HF.out.2.1 HF.out.2.2.1 (fun e => absurd e HF.out.1), (heap_set4 (Ne.symm HF.out.1) _ _ _ _ _).trans AM.out.2⟩⟩
                · replace c27 := Bool.eq_false_iff.mpr c27
                  subst c27
                  have H1 : (some false) = some r := by rw [if_neg (show ¬ (false = true) by decide)] at H; exact H
                  clear H
                  have H := H1
                  clear H1
                  obtain rfl := Option.some.inj H
                  obtain ⟨Ao74, co74, eo74⟩ := Kd.R_slice HO_7.out
                  subst eo74
                  try go_wp2_with (first | ((with_reducible refine gate_callee (f := 15) rfl ?_); refine goesL_ (some 38) rfl rfl Try.func15 (by kernel_rfl) rfl #[.slice Ao74 x7_2.length co74] rfl (by (try simp only [List.map_toArray, List.map_cons, List.map_nil]); first | done | rfl | (simp only [List.length_drop, List.length_take]; rfl)) ?_; (with_reducible refine (code_List.calls k2 _ _ x7_2 t182 t183 t184 t185 _ ?side1 ?side2 A20.out).mono ?_); (case side1 => repeat (first | exact (Kd.R_reads' HO_7.out).2.2 | (with_reducible refine Kd.C_alloc ?_ _) | (with_reducible refine Kd.C_drewN ?_ _) | (with_reducible refine Kd.C_drew ?_))); (case side2 => exact (Kd.R_reads' HO_7.out).2.1); rintro e w75 ⟨v186, rfl, ho0, hb⟩; refine ⟨_, rfl, ?_⟩; have AP := Aside0.mk (Apart2.made (by (with_reducible repeat (first | apply Kd.R_alloc | apply Kd.R_drewN | apply Kd.R_drew)); exact HO_7.out) hb ho0 (below_size (by repeat (first | (with_reducible first | exact HB.out | apply below_alloc | apply pw_below_drewN | apply below_drew1) | exact HB.out)))); have n0_ := Aside0.mk (Kd.R_elder' (by (with_reducible repeat (first | apply Kd.R_alloc | apply Kd.R_drewN | apply Kd.R_drew)); exact HO_7.out) (Kd.R_base ho0) hb); have n1_ := Aside0.mk (Kd.R_lower (Kd.R_new' ho0 (Kd.R_lt (by (with_reducible repeat (first | apply Kd.R_alloc | apply Kd.R_drewN | apply Kd.R_drew)); exact HO_7.out))) (below_size (by repeat (first | (with_reducible first | exact HB.out | apply below_alloc | apply pw_below_drewN | apply below_drew1) | exact HB.out)))); have n2_ := Aside0.mk (below_step (by repeat (first | (with_reducible first | exact HB.out | apply below_alloc | apply pw_below_drewN | apply below_drew1) | exact HB.out)) hb); clear HO_7; clear HB; have HO_7 := n0_; have HO187 := n1_; have HB := n2_; clear n0_ n1_ n2_; (try clear hb); (try clear hb2); (try clear hk); (try clear hi); (try clear ho0)) | ((with_reducible refine gate_dst (N := 9) rfl ?_); refine box_event ?hg (N := 9) ?hd (cs := #[.int .i64 0, .int .u64 0, .string (⟨#[]⟩ : ByteArray), .slice none 0 0]) (t := 26) ?hr ?_; (case hd => rfl); (case hg => rfl); (case hr => first | (go_simp; done) | (go_simp; rfl)); intro gb188 hg w76 hbox hb; have AP3 := Aside0.mk (Apart2.box AP.out hg hb); clear AP; have n0_ := Aside0.mk (Kd.R_below (Kd.R_elderB (by (with_reducible repeat (first | apply Kd.R_alloc | apply Kd.R_drewN | apply Kd.R_drew)); exact HO_7.out) gb188 (Nat.le_of_eq hg.symm)) hb); have n1_ := Aside0.mk (Kd.R_below (Kd.R_elderB (by (with_reducible repeat (first | apply Kd.R_alloc | apply Kd.R_drewN | apply Kd.R_drew)); exact HO187.out) gb188 (Nat.le_of_eq hg.symm)) hb); have n2_ := Aside0.mk (below_step (by repeat (first | (with_reducible first | exact HB.out | apply below_alloc | apply pw_below_drewN | apply below_drew1) | exact HB.out)) hb); have n3_ := Aside0.mk (hbox); have n4_ := Aside0.mk ((by rw [hg]; exact (below_size (by repeat (first | (with_reducible first | exact HB.out | apply below_alloc | apply pw_below_drewN | apply below_drew1) | exact HB.out))) : w.heap.size ≤ gb188)); have n5_ := Aside0.mk ((by rw [hg]; exact (below_size (by repeat (first | (with_reducible first | exact HB.out | apply below_alloc | apply pw_below_drewN | apply below_drew1) | exact HB.out))) : w.heap.size ≤ gb188)); clear HO_7; clear HO187; clear HB; have HO_7 := n0_; have HO187 := n1_; have HB := n2_; have BK188 := n3_; have GW188 := n4_; have GE188 := n5_; clear n0_ n1_ n2_ n3_ n4_ n5_; clear hb hbox hg; have hcz77_0 : w76.cell? ⟨gb188, 0, none⟩ = some (.int .i64 0) := (blk_cell BK188.out 0).trans rfl; have hcz77_1 : w76.cell? ⟨gb188, 1, none⟩ = some (.int .u64 0) := (blk_cell BK188.out 1).trans rfl; have hcz77_2 : w76.cell? ⟨gb188, 2, none⟩ = some (.string (⟨#[]⟩ : ByteArray)) := (blk_cell BK188.out 2).trans rfl; have hcz77_3 : w76.cell? ⟨gb188, 3, none⟩ = some (.slice none 0 0) := (blk_cell BK188.out 3).trans rfl; have hfz77_0 := blk_frozen BK188.out 0; have hfz77_1 := blk_frozen BK188.out 1; have hfz77_2 := blk_frozen BK188.out 2; have hfz77_3 := blk_frozen BK188.out 3; obtain ⟨Ao78, co78, eo78⟩ := Kd.R_slice HO187.out; subst eo78))
                  have n0_ : Aside0 (Kd.R k26 26 ((((w76.setCell ⟨gb188, 0, none⟩ (.int .i64 t182)).setCell ⟨gb188, 1, none⟩ (.int .u64 t183)).setCell ⟨gb188, 2, none⟩ (.string t184)).setCell ⟨gb188, 3, none⟩ (.slice Ao78 t185.length co78)) w.heap.size (fun k_ => some k_ ≠ (.slice Ao78 t185.length co78 : Value).ownBlock ∧ k_ ≠ gb188) (.slice Ao74 x7_2.length co74) x7_2) := ⟨by (with_reducible repeat (first | apply Kd.R_alloc | apply Kd.R_drewN | apply Kd.R_drew)); exact Kd.R_mono (Kd.R_far (p := ⟨gb188, 3, none⟩) (Kd.R_far (p := ⟨gb188, 2, none⟩) (Kd.R_far (p := ⟨gb188, 1, none⟩) (Kd.R_far (p := ⟨gb188, 0, none⟩) (Kd.R_mono HO_7.out (fun k_ hk => (⟨hk, hk.2⟩ : _ ∧ k_ ≠ gb188))) (fun _ hk => hk.2) (.int .i64 t182)) (fun _ hk => hk.2) (.int .u64 t183)) (fun _ hk => hk.2) (.string t184)) (fun _ hk => hk.2) (.slice Ao78 t185.length co78)) (fun _ hk => ⟨hk.1.1.2, hk.1.2⟩)⟩
                  have n1_ : Aside0 (Kd.R k26 26 ((((w76.setCell ⟨gb188, 0, none⟩ (.int .i64 t182)).setCell ⟨gb188, 1, none⟩ (.int .u64 t183)).setCell ⟨gb188, 2, none⟩ (.string t184)).setCell ⟨gb188, 3, none⟩ (.slice Ao78 t185.length co78)) w.heap.size (fun k_ => some k_ ≠ (.slice Ao74 x7_2.length co74 : Value).ownBlock ∧ k_ ≠ gb188) (.slice Ao78 t185.length co78) t185) := ⟨by (with_reducible repeat (first | apply Kd.R_alloc | apply Kd.R_drewN | apply Kd.R_drew)); exact Kd.R_mono (Kd.R_far (p := ⟨gb188, 3, none⟩) (Kd.R_far (p := ⟨gb188, 2, none⟩) (Kd.R_far (p := ⟨gb188, 1, none⟩) (Kd.R_far (p := ⟨gb188, 0, none⟩) (Kd.R_mono HO187.out (fun k_ hk => (⟨hk, hk.2⟩ : _ ∧ k_ ≠ gb188))) (fun _ hk => hk.2) (.int .i64 t182)) (fun _ hk => hk.2) (.int .u64 t183)) (fun _ hk => hk.2) (.string t184)) (fun _ hk => hk.2) (.slice Ao78 t185.length co78)) (fun _ hk => ⟨hk.1.1.2, hk.1.2⟩)⟩
                  have n2_ : Aside0 (((((w76.setCell ⟨gb188, 0, none⟩ (.int .i64 t182)).setCell ⟨gb188, 1, none⟩ (.int .u64 t183)).setCell ⟨gb188, 2, none⟩ (.string t184)).setCell ⟨gb188, 3, none⟩ (.slice Ao78 t185.length co78)).heap[gb188]? = some (.cells #[.int .i64 t182, .int .u64 t183, .string t184, .slice Ao78 t185.length co78] 26 (0, 0))) := ⟨by (with_reducible repeat (first | refine blk_drewN ?_ _ | refine blk_drew ?_ | refine blk_alloc ?_ _)); refine blk_put (cs := #[.int .i64 t182, .int .u64 t183, .string t184, .slice none 0 0]) ?_ 3 _ rfl; (with_reducible repeat (first | refine blk_drewN ?_ _ | refine blk_drew ?_ | refine blk_alloc ?_ _)); refine blk_put (cs := #[.int .i64 t182, .int .u64 t183, .string (⟨#[]⟩ : ByteArray), .slice none 0 0]) ?_ 2 _ rfl; (with_reducible repeat (first | refine blk_drewN ?_ _ | refine blk_drew ?_ | refine blk_alloc ?_ _)); refine blk_put (cs := #[.int .i64 t182, .int .u64 0, .string (⟨#[]⟩ : ByteArray), .slice none 0 0]) ?_ 1 _ rfl; (with_reducible repeat (first | refine blk_drewN ?_ _ | refine blk_drew ?_ | refine blk_alloc ?_ _)); refine blk_put (cs := #[.int .i64 0, .int .u64 0, .string (⟨#[]⟩ : ByteArray), .slice none 0 0]) ?_ 0 _ rfl; (with_reducible repeat (first | refine blk_drewN ?_ _ | refine blk_drew ?_ | refine blk_alloc ?_ _)); exact BK188.out⟩
                  have n3_ : Aside0 (Below w.heap.size w ((((w76.setCell ⟨gb188, 0, none⟩ (.int .i64 t182)).setCell ⟨gb188, 1, none⟩ (.int .u64 t183)).setCell ⟨gb188, 2, none⟩ (.string t184)).setCell ⟨gb188, 3, none⟩ (.slice Ao78 t185.length co78))) := ⟨by repeat (first | (with_reducible first | exact HB.out | apply below_alloc | apply pw_below_drewN | apply below_drew1 | refine below_set ?_ GE188.out) | exact HB.out)⟩
                  (try clear HO_7)
                  (try clear HO187)
                  (try clear BK188)
                  (try clear HB)
                  have n9_ : Aside0 (Apart3 w.heap.size ((((w76.setCell ⟨gb188, 0, none⟩ (.int .i64 t182)).setCell ⟨gb188, 1, none⟩ (.int .u64 t183)).setCell ⟨gb188, 2, none⟩ (.string t184)).setCell ⟨gb188, 3, none⟩ (.slice Ao78 t185.length co78)) (.slice Ao74 x7_2.length co74) (.slice Ao78 t185.length co78) x7_2 t185 gb188) := ⟨(((AP3.out.set 0 _).set 1 _).set 2 _).set 3 _⟩
                  clear AP3
                  generalize ((((w76.setCell ⟨gb188, 0, none⟩ (.int .i64 t182)).setCell ⟨gb188, 1, none⟩ (.int .u64 t183)).setCell ⟨gb188, 2, none⟩ (.string t184)).setCell ⟨gb188, 3, none⟩ (.slice Ao78 t185.length co78)) = w79 at n0_ n1_ n2_ n3_ n9_ ⊢
                  have HO_7 := n0_
                  have HO187 := n1_
                  have BK188 := n2_
                  have HB := n3_
                  clear n0_ n1_ n2_ n3_
                  obtain ⟨Bm, hB1, hB2, hB3, hB4⟩ := n9_.out
                  have AM := MkInv.made hB3
                  have HC := Aside0.mk hB4
                  have HBm := Aside0.mk (And.intro hB1 hB2)
                  have AM0 : Aside0 (x7_2.length = 0 ∧ w79 = w79 ∨ ∃ g, Ao74 = some ⟨g, 0, none⟩ ∧ MkInv w.heap.size Bm g x7_2.length 0 w79 w79) := ⟨AM.imp (fun h => ⟨h, rfl⟩) id⟩
                  clear AM hB1 hB2 hB3 hB4 HO_7 HO187 n9_
                  go_loopg [10, 11] (x7_2.length) (fun j v10 v11 w' => ∃ i : Int, v10 = .int .i64 i ∧ Aside0 (∃ I : Nat, i = (I : Int) ∧ I + j = x7_2.length ∧ (x7_2.length = 0 ∧ w' = w79 ∨ ∃ g, Ao74 = some ⟨g, 0, none⟩ ∧ MkInv w.heap.size Bm g x7_2.length I w79 w')))
                  case atStart => exact ⟨0, rfl, ⟨0, rfl, by omega, AM0.out⟩⟩
                  case round =>
                    clear AM0
                    obtain ⟨i10, rfl, HM⟩ := hrel
                    cases gk with
                    | zero =>
                      have b10 : decide (i10 < (x7_2.length : Int)) = false := decide_eq_false (by obtain ⟨I, h1, h2, _⟩ := HM.out; omega)
                      have HS : Aside0 ((∀ k, Bm ≤ k → wr.heap[k]? = w79.heap[k]?) ∧ Below w.heap.size w79 wr) := ⟨by
                        obtain ⟨I, _, _, h | ⟨g, _, h⟩⟩ := HM.out
                        · rw [h.2]; exact ⟨fun _ _ => rfl, Below.refl _ _⟩
                        · exact ⟨fun k hk => h.same k (.inr hk), h.bel⟩⟩
                      clear HM
                      go_wp2
                      have n0_ : Aside0 (Kd.R k26 26 wr w.heap.size (fun k_ => some k_ ≠ (.slice Ao78 t185.length co78 : Value).ownBlock ∧ k_ ≠ gb188) (.slice none 0 0) []) := ⟨Kd.R_nil _ _ _ _ _⟩
                      have n1_ : Aside0 (Kd.R k26 26 wr w.heap.size (fun k_ => some k_ ≠ (.slice none 0 0 : Value).ownBlock ∧ k_ ≠ gb188) (.slice Ao78 t185.length co78) t185) := ⟨Kd.R_mono (Kd.R_move HC.out (fun k hk => HS.out.1 k hk.1)) (fun k hk => ⟨by simp [Value.ownBlock], hk.2⟩)⟩
                      have n2_ := Aside0.mk ((HS.out.1 gb188 HBm.out.2).trans BK188.out)
                      have n3_ := Aside0.mk (HB.out.trans HS.out.2)
                      clear BK188 HB HC HS HBm
                      have HO_7 := n0_
                      have HO187 := n1_
                      have BK188 := n2_
                      have HB := n3_
                      clear n0_ n1_ n2_ n3_
                      have n0_ := Aside0.mk (Kd.R_drew HO_7.out)
                      have n1_ := Aside0.mk (Kd.R_drew HO187.out)
                      have n2_ := Aside0.mk (blk_drew BK188.out)
                      have n3_ := Aside0.mk (below_drew1 HB.out)
                      clear HO_7
                      clear HO187
                      clear BK188
                      clear HB
                      have HO_7 := n0_
                      have HO187 := n1_
                      have BK188 := n2_
                      have HB := n3_
                      clear n0_ n1_ n2_ n3_
                      refine start_ (n := 22) (S := fun w' => w'.cell? ⟨gb188, 0, none⟩ = some (.int .i64 t182) ∧ w'.cell? ⟨gb188, 1, none⟩ = some (.int .u64 t183) ∧ w'.cell? ⟨gb188, 2, none⟩ = some (.string t184) ∧ w'.cell? ⟨gb188, 3, none⟩ = some (.slice Ao78 t185.length co78)) (ds := []) #[false, false, false, false, false, false, false, false, false, false, false, false, false, false, false, false, false, false, false, false, false, false] (by kernel_rfl) rfl rfl ⟨(blk_cell BK188.out 0).trans rfl, (blk_cell BK188.out 1).trans rfl, (blk_cell BK188.out 2).trans rfl, (blk_cell BK188.out 3).trans rfl⟩ (fun hHeld => ?_); refine with_tabW minstrellaw07_CodeMakes.tab17 minstrellaw07_CodeMakes.bits17 (fun HT_ HW_ => ?_)
                      generalize wr.drew = w80 at HO_7 HO187 BK188 HB hHeld ⊢
                      refine pure_ (i := 1) (N := some 68) (v := ?_) (a' := ?_) #[false, true, false, false, false, false, false, false, false, false, false, false, false, false, false, false, false, false, false, false, false, false] rfl rfl (any_of HT_.out (by kernel_rfl)) (fun _ _ _ h => h) (Or.inl ⟨by rfl, ?_⟩) ?_ ?_
                      rotate_left
                      · intro w'
                        go_simp
                        with_reducible rfl
                      rotate_left
                      · simp only [Act.put, List.setIfInBounds_toArray, List.set_cons_zero, List.set_cons_succ, i64_w, i32_w]
                        rfl
                      refine take_ (i := 0) (N := some 67) (v := ?_) (a' := ?_) #[true, true, false, false, false, false, false, false, false, false, false, false, false, false, false, false, false, false, false, false, false, false] rfl rfl (take_ofW HT_.out HW_.out (by kernel_rfl)) (fun _ _ _ h => h) (Or.inl ⟨by rfl, ?_⟩) hHeld ?_ ?_
                      rotate_left
                      · rintro w' ⟨s0, s1, s2, s3⟩
                        go_simp
                        with_reducible rfl
                      rotate_left
                      · simp only [Act.put, List.setIfInBounds_toArray, List.set_cons_zero, List.set_cons_succ, i64_w, i32_w]
                        rfl
                      refine one_ (i := 2) (N := some 69) #[true, true, true, false, false, false, false, false, false, false, false, false, false, false, false, false, false, false, false, false, false, false] rfl rfl (one_of HT_.out (by kernel_rfl)) (by decide) (fun K hK => ?_)
                      refine goes_ Try.func16 (by kernel_rfl) rfl #[.slice A2 l2.length c2] (by rfl) rfl rfl (by (try simp only [List.map_toArray, List.map_cons, List.map_nil]); first | done | rfl | (simp only [List.length_drop, List.length_take]; rfl)) ?_
                      with_reducible refine (minstrelref07_List.calls (fun k_ => k_ < w.heap.size) _ _ l2 t189 t190 t191 t192 _ ?side1 A21.out).mono ?_
                      (case side1 => exact Kd.V_mk HC2.out (Kd.F_below (Kd.C_F k26_heap HR2.out) (by repeat (first | (with_reducible first | exact HB.out | apply below_alloc | apply pw_below_drewN | apply below_drew1 | refine below_set ?_ GE188.out) | exact HB.out))))
                      rintro e w81 ⟨v193, rfl, ho0, hb⟩
                      refine ⟨_, rfl, ?_⟩
                      have n0_ := Aside0.mk (Kd.R_below (by (with_reducible repeat (first | apply Kd.R_alloc | apply Kd.R_drewN | apply Kd.R_drew)); exact HO_7.out) hb)
                      have n1_ := Aside0.mk (Kd.R_below (by (with_reducible repeat (first | apply Kd.R_alloc | apply Kd.R_drewN | apply Kd.R_drew)); exact HO187.out) hb)
                      have n2_ := Aside0.mk (Kd.V_lower (Kd.V_mono (ok' := fun k_ => some k_ ≠ (.slice none 0 0 : Value).ownBlock ∧ some k_ ≠ (.slice Ao78 t185.length co78 : Value).ownBlock ∧ k_ ≠ gb188) ho0 (fun k_ hk_ => ⟨Or.elim hk_ (fun hs_ => fun e_ => Nat.not_le.2 hs_ (Kd.R_base HO_7.out k_ e_.symm)) (fun hn_ => (Kd.fresh' (Kd.R_lt (by (with_reducible repeat (first | apply Kd.R_alloc | apply Kd.R_drewN | apply Kd.R_drew)); exact HO_7.out)) k_ hn_)), Or.elim hk_ (fun hs_ => fun e_ => Nat.not_le.2 hs_ (Kd.R_base HO187.out k_ e_.symm)) (fun hn_ => (Kd.fresh' (Kd.R_lt (by (with_reducible repeat (first | apply Kd.R_alloc | apply Kd.R_drewN | apply Kd.R_drew)); exact HO187.out)) k_ hn_)), Or.elim hk_ (fun hs_ => fun e_ => Nat.not_le.2 hs_ (by rw [e_]; exact GW188.out)) (fun hn_ => (Kd.freshB (g := gb188) (o := .cells #[.int .i64 t182, .int .u64 t183, .string t184, .slice Ao78 t185.length co78] 26 (0, 0)) (by (with_reducible repeat (first | refine blk_drewN ?_ _ | refine blk_drew ?_ | refine blk_alloc ?_ _)); exact BK188.out) k_ hn_))⟩)) (below_size (by repeat (first | (with_reducible first | exact HB.out | apply below_alloc | apply pw_below_drewN | apply below_drew1 | refine below_set ?_ GE188.out) | exact HB.out))))
                      have n3_ := Aside0.mk (blk_below (g := gb188) (o := .cells #[.int .i64 t182, .int .u64 t183, .string t184, .slice Ao78 t185.length co78] 26 (0, 0)) (by (with_reducible repeat (first | refine blk_drewN ?_ _ | refine blk_drew ?_ | refine blk_alloc ?_ _)); exact BK188.out) hb)
                      have n4_ := Aside0.mk (below_step (by repeat (first | (with_reducible first | exact HB.out | apply below_alloc | apply pw_below_drewN | apply below_drew1 | refine below_set ?_ GE188.out) | exact HB.out)) hb)
                      clear HO_7
                      clear HO187
                      clear BK188
                      clear HB
                      have HO_7 := n0_
                      have HO187 := n1_
                      have HO194 := n2_
                      have BK188 := n3_
                      have HB := n4_
                      clear n0_ n1_ n2_ n3_ n4_
                      (try clear hb)
                      (try clear hb2)
                      (try clear hk)
                      (try clear hi)
                      (try clear ho0)
                      obtain ⟨Ao82, co82, eo82⟩ := Kd.V_slice HO194.out
                      (first | subst eo82 | (injection eo82 with f1_ f2_ f3_; have f4_ := f1_.symm; have f5_ := f3_.symm; clear f1_ f2_ f3_; subst f4_; subst f5_))
                      refine hK.out _ _ ⟨(blk_cell BK188.out 0).trans rfl, (blk_cell BK188.out 1).trans rfl, (blk_cell BK188.out 2).trans rfl, (blk_cell BK188.out 3).trans rfl⟩ (fun hHeld => ?_)
                      clear hK K
                      refine norm_ (a' := ?_) ?_ ?_
                      rotate_left
                      · show Act.put _ (some 69) _ = _
                        simp only [Act.put, List.setIfInBounds_toArray, List.set_cons_zero, List.set_cons_succ, i64_w, i32_w]
                        rfl
                      refine one_ (i := 3) (N := some 70) #[true, true, true, true, false, false, false, false, false, false, false, false, false, false, false, false, false, false, false, false, false, false] rfl rfl (one_of HT_.out (by kernel_rfl)) (by decide) (fun K hK => ?_)
                      refine goes_ Try.func10 (by kernel_rfl) rfl #[.agg #[.int .i64 t182, .int .u64 t183, .string t184, .slice Ao78 t185.length co78], .agg #[.int .i64 t189, .int .u64 t190, .string t191, .slice Ao82 t192.length co82]] (by rfl) rfl rfl (by (try simp only [List.map_toArray, List.map_cons, List.map_nil]); first | done | rfl | (simp only [List.length_drop, List.length_take]; rfl)) ?_
                      with_reducible refine (minstrelref07_Same.calls k2 t182 t183 t184 _ _ t185 t189 t190 t191 _ _ t192 true _ ?side1 ?side2 ?side3 ?side4 A22.out).mono ?_
                      (case side1 => repeat (first | exact (Kd.R_reads' HO187.out).2.2 | (with_reducible refine Kd.C_alloc ?_ _) | (with_reducible refine Kd.C_drewN ?_ _) | (with_reducible refine Kd.C_drew ?_)))
                      (case side2 => exact (Kd.R_reads' HO187.out).2.1)
                      (case side3 => repeat (first | exact (Kd.V_reads' HO194.out).2.2 | (with_reducible refine Kd.C_alloc ?_ _) | (with_reducible refine Kd.C_drewN ?_ _) | (with_reducible refine Kd.C_drew ?_)))
                      (case side4 => exact (Kd.V_reads' HO194.out).2.1)
                      rintro e w83 ⟨rfl, hb⟩
                      refine ⟨_, rfl, ?_⟩
                      have n0_ := Aside0.mk (Kd.R_below (by (with_reducible repeat (first | apply Kd.R_alloc | apply Kd.R_drewN | apply Kd.R_drew)); exact HO_7.out) hb)
                      have n1_ := Aside0.mk (Kd.R_below (by (with_reducible repeat (first | apply Kd.R_alloc | apply Kd.R_drewN | apply Kd.R_drew)); exact HO187.out) hb)
                      have n2_ := Aside0.mk (Kd.V_below (by (with_reducible repeat (first | apply Kd.V_alloc | apply Kd.V_drewN | apply Kd.V_drew)); exact HO194.out) hb)
                      have n3_ := Aside0.mk (blk_below (g := gb188) (o := .cells #[.int .i64 t182, .int .u64 t183, .string t184, .slice Ao78 t185.length co78] 26 (0, 0)) (by (with_reducible repeat (first | refine blk_drewN ?_ _ | refine blk_drew ?_ | refine blk_alloc ?_ _)); exact BK188.out) hb)
                      have n4_ := Aside0.mk (below_step (by repeat (first | (with_reducible first | exact HB.out | apply below_alloc | apply pw_below_drewN | apply below_drew1 | refine below_set ?_ GE188.out) | exact HB.out)) hb)
                      clear HO_7
                      clear HO187
                      clear HO194
                      clear BK188
                      clear HB
                      have HO_7 := n0_
                      have HO187 := n1_
                      have HO194 := n2_
                      have BK188 := n3_
                      have HB := n4_
                      clear n0_ n1_ n2_ n3_ n4_
                      (try clear hb)
                      (try clear hb2)
                      (try clear hk)
                      (try clear hi)
                      refine hK.out _ _ ⟨(blk_cell BK188.out 0).trans rfl, (blk_cell BK188.out 1).trans rfl, (blk_cell BK188.out 2).trans rfl, (blk_cell BK188.out 3).trans rfl⟩ (fun hHeld => ?_)
                      clear hK K
                      refine norm_ (a' := ?_) ?_ ?_
                      rotate_left
                      · show Act.put _ (some 70) _ = _
                        simp only [Act.put, List.setIfInBounds_toArray, List.set_cons_zero, List.set_cons_succ, i64_w, i32_w]
                        rfl
                      refine pure_ (i := 4) (N := some 71) (v := ?_) (a' := ?_) #[true, true, true, true, true, false, false, false, false, false, false, false, false, false, false, false, false, false, false, false, false, false] rfl rfl (any_of HT_.out (by kernel_rfl)) (fun _ _ _ h => h) (Or.inl ⟨by rfl, ?_⟩) ?_ ?_
                      rotate_left
                      · intro w'
                        go_simp
                        with_reducible rfl
                      rotate_left
                      · simp only [Act.put, List.setIfInBounds_toArray, List.set_cons_zero, List.set_cons_succ, i64_w, i32_w]
                        rfl
                      refine pure_ (i := 5) (N := some 72) (v := ?_) (a' := ?_) #[true, true, true, true, true, true, false, false, false, false, false, false, false, false, false, false, false, false, false, false, false, false] rfl rfl (any_of HT_.out (by kernel_rfl)) (fun _ _ _ h => h) (Or.inl ⟨by rfl, ?_⟩) ?_ ?_
                      rotate_left
                      · intro w'
                        go_simp
                        with_reducible rfl
                      rotate_left
                      · simp only [Act.put, List.setIfInBounds_toArray, List.set_cons_zero, List.set_cons_succ, i64_w, i32_w]
                        rfl
                      refine pure_ (i := 7) (N := some 74) (v := ?_) (a' := ?_) #[true, true, true, true, true, true, false, true, false, false, false, false, false, false, false, false, false, false, false, false, false, false] rfl rfl (any_of HT_.out (by kernel_rfl)) (fun _ _ _ h => h) (Or.inl ⟨by rfl, ?_⟩) ?_ ?_
                      rotate_left
                      · intro w'
                        go_simp
                        with_reducible rfl
                      rotate_left
                      · simp only [Act.put, List.setIfInBounds_toArray, List.set_cons_zero, List.set_cons_succ, i64_w, i32_w]
                        rfl
                      refine one_ (i := 6) (N := some 73) #[true, true, true, true, true, true, true, true, false, false, false, false, false, false, false, false, false, false, false, false, false, false] rfl rfl (one_of HT_.out (by kernel_rfl)) (by decide) (fun K hK => ?_)
                      refine goes_ Try.func17 (by kernel_rfl) rfl #[.int .u64 a0] (by rfl) rfl rfl (by (try simp only [List.map_toArray, List.map_cons, List.map_nil]); first | done | rfl | (simp only [List.length_drop, List.length_take]; rfl)) ?_
                      with_reducible refine (code_Number.calls a0 t196 t197 t198 t199 _ A24.out).mono ?_
                      rintro e w84 ⟨v200, rfl, ho0, hb⟩
                      refine ⟨_, rfl, ?_⟩
                      have n0_ := Aside0.mk (Kd.R_elder' (by (with_reducible repeat (first | apply Kd.R_alloc | apply Kd.R_drewN | apply Kd.R_drew)); exact HO_7.out) (Kd.R_base ho0) hb)
                      have n1_ := Aside0.mk (Kd.R_elder' (by (with_reducible repeat (first | apply Kd.R_alloc | apply Kd.R_drewN | apply Kd.R_drew)); exact HO187.out) (Kd.R_base ho0) hb)
                      have n2_ := Aside0.mk (Kd.V_elder' (by (with_reducible repeat (first | apply Kd.V_alloc | apply Kd.V_drewN | apply Kd.V_drew)); exact HO194.out) (Kd.R_base ho0) hb)
                      have n3_ := Aside0.mk (Kd.R_lower (Kd.R_newB (Kd.R_new' (Kd.R_new' ho0 (Kd.R_lt (by (with_reducible repeat (first | apply Kd.R_alloc | apply Kd.R_drewN | apply Kd.R_drew)); exact HO_7.out))) (Kd.R_lt (by (with_reducible repeat (first | apply Kd.R_alloc | apply Kd.R_drewN | apply Kd.R_drew)); exact HO187.out))) (g := gb188) (o := .cells #[.int .i64 t182, .int .u64 t183, .string t184, .slice Ao78 t185.length co78] 26 (0, 0)) (by (with_reducible repeat (first | refine blk_drewN ?_ _ | refine blk_drew ?_ | refine blk_alloc ?_ _)); exact BK188.out)) (below_size (by repeat (first | (with_reducible first | exact HB.out | apply below_alloc | apply pw_below_drewN | apply below_drew1 | refine below_set ?_ GE188.out) | exact HB.out))))
                      have n4_ := Aside0.mk (blk_below (g := gb188) (o := .cells #[.int .i64 t182, .int .u64 t183, .string t184, .slice Ao78 t185.length co78] 26 (0, 0)) (by (with_reducible repeat (first | refine blk_drewN ?_ _ | refine blk_drew ?_ | refine blk_alloc ?_ _)); exact BK188.out) hb)
                      have n5_ := Aside0.mk (below_step (by repeat (first | (with_reducible first | exact HB.out | apply below_alloc | apply pw_below_drewN | apply below_drew1 | refine below_set ?_ GE188.out) | exact HB.out)) hb)
                      clear HO_7
                      clear HO187
                      clear HO194
                      clear BK188
                      clear HB
                      have HO_7 := n0_
                      have HO187 := n1_
                      have HO194 := n2_
                      have HO201 := n3_
                      have BK188 := n4_
                      have HB := n5_
                      clear n0_ n1_ n2_ n3_ n4_ n5_
                      (try clear hb)
                      (try clear hb2)
                      (try clear hk)
                      (try clear hi)
                      (try clear ho0)
                      refine hK.out _ _ ⟨(blk_cell BK188.out 0).trans rfl, (blk_cell BK188.out 1).trans rfl, (blk_cell BK188.out 2).trans rfl, (blk_cell BK188.out 3).trans rfl⟩ (fun hHeld => ?_)
                      clear hK K
                      refine norm_ (a' := ?_) ?_ ?_
                      rotate_left
                      · show Act.put _ (some 73) _ = _
                        simp only [Act.put, List.setIfInBounds_toArray, List.set_cons_zero, List.set_cons_succ, i64_w, i32_w]
                        rfl
                      refine one_ (i := 8) (N := some 75) #[true, true, true, true, true, true, true, true, true, false, false, false, false, false, false, false, false, false, false, false, false, false] rfl rfl (one_of HT_.out (by kernel_rfl)) (by decide) (fun K hK => ?_)
                      refine goes_ Try.func18 (by kernel_rfl) rfl #[.int .u64 a0] (by rfl) rfl rfl (by (try simp only [List.map_toArray, List.map_cons, List.map_nil]); first | done | rfl | (simp only [List.length_drop, List.length_take]; rfl)) ?_
                      with_reducible refine (minstrelref07_Number.calls a0 t202 t203 t204 t205 _ A25.out).mono ?_
                      rintro e w85 ⟨v206, rfl, ho0, hb⟩
                      refine ⟨_, rfl, ?_⟩
                      have n0_ := Aside0.mk (Kd.R_elder' (by (with_reducible repeat (first | apply Kd.R_alloc | apply Kd.R_drewN | apply Kd.R_drew)); exact HO_7.out) (Kd.R_base ho0) hb)
                      have n1_ := Aside0.mk (Kd.R_elder' (by (with_reducible repeat (first | apply Kd.R_alloc | apply Kd.R_drewN | apply Kd.R_drew)); exact HO187.out) (Kd.R_base ho0) hb)
                      have n2_ := Aside0.mk (Kd.V_elder' (by (with_reducible repeat (first | apply Kd.V_alloc | apply Kd.V_drewN | apply Kd.V_drew)); exact HO194.out) (Kd.R_base ho0) hb)
                      have n3_ := Aside0.mk (Kd.R_elder' (by (with_reducible repeat (first | apply Kd.R_alloc | apply Kd.R_drewN | apply Kd.R_drew)); exact HO201.out) (Kd.R_base ho0) hb)
                      have n4_ := Aside0.mk (Kd.R_lower (Kd.R_newB (Kd.R_new' (Kd.R_new' (Kd.R_new' ho0 (Kd.R_lt (by (with_reducible repeat (first | apply Kd.R_alloc | apply Kd.R_drewN | apply Kd.R_drew)); exact HO_7.out))) (Kd.R_lt (by (with_reducible repeat (first | apply Kd.R_alloc | apply Kd.R_drewN | apply Kd.R_drew)); exact HO187.out))) (Kd.R_lt (by (with_reducible repeat (first | apply Kd.R_alloc | apply Kd.R_drewN | apply Kd.R_drew)); exact HO201.out))) (g := gb188) (o := .cells #[.int .i64 t182, .int .u64 t183, .string t184, .slice Ao78 t185.length co78] 26 (0, 0)) (by (with_reducible repeat (first | refine blk_drewN ?_ _ | refine blk_drew ?_ | refine blk_alloc ?_ _)); exact BK188.out)) (below_size (by repeat (first | (with_reducible first | exact HB.out | apply below_alloc | apply pw_below_drewN | apply below_drew1 | refine below_set ?_ GE188.out) | exact HB.out))))
                      have n5_ := Aside0.mk (blk_below (g := gb188) (o := .cells #[.int .i64 t182, .int .u64 t183, .string t184, .slice Ao78 t185.length co78] 26 (0, 0)) (by (with_reducible repeat (first | refine blk_drewN ?_ _ | refine blk_drew ?_ | refine blk_alloc ?_ _)); exact BK188.out) hb)
                      have n6_ := Aside0.mk (below_step (by repeat (first | (with_reducible first | exact HB.out | apply below_alloc | apply pw_below_drewN | apply below_drew1 | refine below_set ?_ GE188.out) | exact HB.out)) hb)
                      clear HO_7
                      clear HO187
                      clear HO194
                      clear HO201
                      clear BK188
                      clear HB
                      have HO_7 := n0_
                      have HO187 := n1_
                      have HO194 := n2_
                      have HO201 := n3_
                      have HO207 := n4_
                      have BK188 := n5_
                      have HB := n6_
                      clear n0_ n1_ n2_ n3_ n4_ n5_ n6_
                      (try clear hb)
                      (try clear hb2)
                      (try clear hk)
                      (try clear hi)
                      (try clear ho0)
                      obtain ⟨Ao86, co86, eo86⟩ := Kd.R_slice HO201.out
                      (first | subst eo86 | (injection eo86 with f1_ f2_ f3_; have f4_ := f1_.symm; have f5_ := f3_.symm; clear f1_ f2_ f3_; subst f4_; subst f5_))
                      obtain ⟨Ao87, co87, eo87⟩ := Kd.R_slice HO207.out
                      (first | subst eo87 | (injection eo87 with f1_ f2_ f3_; have f4_ := f1_.symm; have f5_ := f3_.symm; clear f1_ f2_ f3_; subst f4_; subst f5_))
                      refine hK.out _ _ ⟨(blk_cell BK188.out 0).trans rfl, (blk_cell BK188.out 1).trans rfl, (blk_cell BK188.out 2).trans rfl, (blk_cell BK188.out 3).trans rfl⟩ (fun hHeld => ?_)
                      clear hK K
                      refine norm_ (a' := ?_) ?_ ?_
                      rotate_left
                      · show Act.put _ (some 75) _ = _
                        simp only [Act.put, List.setIfInBounds_toArray, List.set_cons_zero, List.set_cons_succ, i64_w, i32_w]
                        rfl
                      refine one_ (i := 9) (N := some 76) #[true, true, true, true, true, true, true, true, true, true, false, false, false, false, false, false, false, false, false, false, false, false] rfl rfl (one_of HT_.out (by kernel_rfl)) (by decide) (fun K hK => ?_)
                      refine goes_ Try.func10 (by kernel_rfl) rfl #[.agg #[.int .i64 t196, .int .u64 t197, .string t198, .slice Ao86 t199.length co86], .agg #[.int .i64 t202, .int .u64 t203, .string t204, .slice Ao87 t205.length co87]] (by rfl) rfl rfl (by (try simp only [List.map_toArray, List.map_cons, List.map_nil]); first | done | rfl | (simp only [List.length_drop, List.length_take]; rfl)) ?_
                      with_reducible refine (minstrelref07_Same.calls k2 t196 t197 t198 _ _ t199 t202 t203 t204 _ _ t205 false _ ?side1 ?side2 ?side3 ?side4 A26.out).mono ?_
                      (case side1 => repeat (first | exact (Kd.R_reads' HO201.out).2.2 | (with_reducible refine Kd.C_alloc ?_ _) | (with_reducible refine Kd.C_drewN ?_ _) | (with_reducible refine Kd.C_drew ?_)))
                      (case side2 => exact (Kd.R_reads' HO201.out).2.1)
                      (case side3 => repeat (first | exact (Kd.R_reads' HO207.out).2.2 | (with_reducible refine Kd.C_alloc ?_ _) | (with_reducible refine Kd.C_drewN ?_ _) | (with_reducible refine Kd.C_drew ?_)))
                      (case side4 => exact (Kd.R_reads' HO207.out).2.1)
                      rintro e w88 ⟨rfl, hb⟩
                      refine ⟨_, rfl, ?_⟩
                      have n0_ := Aside0.mk (Kd.R_below (by (with_reducible repeat (first | apply Kd.R_alloc | apply Kd.R_drewN | apply Kd.R_drew)); exact HO_7.out) hb)
                      have n1_ := Aside0.mk (Kd.R_below (by (with_reducible repeat (first | apply Kd.R_alloc | apply Kd.R_drewN | apply Kd.R_drew)); exact HO187.out) hb)
                      have n2_ := Aside0.mk (Kd.V_below (by (with_reducible repeat (first | apply Kd.V_alloc | apply Kd.V_drewN | apply Kd.V_drew)); exact HO194.out) hb)
                      have n3_ := Aside0.mk (Kd.R_below (by (with_reducible repeat (first | apply Kd.R_alloc | apply Kd.R_drewN | apply Kd.R_drew)); exact HO201.out) hb)
                      have n4_ := Aside0.mk (Kd.R_below (by (with_reducible repeat (first | apply Kd.R_alloc | apply Kd.R_drewN | apply Kd.R_drew)); exact HO207.out) hb)
                      have n5_ := Aside0.mk (blk_below (g := gb188) (o := .cells #[.int .i64 t182, .int .u64 t183, .string t184, .slice Ao78 t185.length co78] 26 (0, 0)) (by (with_reducible repeat (first | refine blk_drewN ?_ _ | refine blk_drew ?_ | refine blk_alloc ?_ _)); exact BK188.out) hb)
                      have n6_ := Aside0.mk (below_step (by repeat (first | (with_reducible first | exact HB.out | apply below_alloc | apply pw_below_drewN | apply below_drew1 | refine below_set ?_ GE188.out) | exact HB.out)) hb)
                      clear HO_7
                      clear HO187
                      clear HO194
                      clear HO201
                      clear HO207
                      clear BK188
                      clear HB
                      have HO_7 := n0_
                      have HO187 := n1_
                      have HO194 := n2_
                      have HO201 := n3_
                      have HO207 := n4_
                      have BK188 := n5_
                      have HB := n6_
                      clear n0_ n1_ n2_ n3_ n4_ n5_ n6_
                      (try clear hb)
                      (try clear hb2)
                      (try clear hk)
                      (try clear hi)
                      refine hK.out _ _ ⟨(blk_cell BK188.out 0).trans rfl, (blk_cell BK188.out 1).trans rfl, (blk_cell BK188.out 2).trans rfl, (blk_cell BK188.out 3).trans rfl⟩ (fun hHeld => ?_)
                      clear hK K
                      refine norm_ (a' := ?_) ?_ ?_
                      rotate_left
                      · show Act.put _ (some 76) _ = _
                        simp only [Act.put, List.setIfInBounds_toArray, List.set_cons_zero, List.set_cons_succ, i64_w, i32_w]
                        rfl
                      refine pure_ (i := 10) (N := some 77) (v := ?_) (a' := ?_) #[true, true, true, true, true, true, true, true, true, true, true, false, false, false, false, false, false, false, false, false, false, false] rfl rfl (any_of HT_.out (by kernel_rfl)) (fun _ _ _ h => h) (Or.inl ⟨by rfl, ?_⟩) ?_ ?_
                      rotate_left
                      · intro w'
                        go_simp
                        with_reducible rfl
                      rotate_left
                      · simp only [Act.put, List.setIfInBounds_toArray, List.set_cons_zero, List.set_cons_succ, i64_w, i32_w]
                        rfl
                      refine pure_ (i := 11) (N := some 78) (v := ?_) (a' := ?_) #[true, true, true, true, true, true, true, true, true, true, true, true, false, false, false, false, false, false, false, false, false, false] rfl rfl (any_of HT_.out (by kernel_rfl)) (fun _ _ _ h => h) (Or.inl ⟨by rfl, ?_⟩) ?_ ?_
                      rotate_left
                      · intro w'
                        go_simp
                        with_reducible rfl
                      rotate_left
                      · simp only [Act.put, List.setIfInBounds_toArray, List.set_cons_zero, List.set_cons_succ, i64_w, i32_w]
                        rfl
                      refine pure_ (i := 12) (N := some 79) (v := undef) (a' := ?_) #[true, true, true, true, true, true, true, true, true, true, true, true, true, false, false, false, false, false, false, false, false, false] rfl rfl (any_of HT_.out (by kernel_rfl)) (fun _ _ _ h => h) (Or.inr ⟨by rfl, rfl⟩) ?_ ?_
                      rotate_left
                      · simp only [Act.put, List.setIfInBounds_toArray, List.set_cons_zero, List.set_cons_succ, i64_w, i32_w]
                        rfl
                      refine pure_ (i := 13) (N := some 80) (v := undef) (a' := ?_) #[true, true, true, true, true, true, true, true, true, true, true, true, true, true, false, false, false, false, false, false, false, false] rfl rfl (any_of HT_.out (by kernel_rfl)) (fun _ _ _ h => h) (Or.inr ⟨by rfl, rfl⟩) ?_ ?_
                      rotate_left
                      · simp only [Act.put, List.setIfInBounds_toArray, List.set_cons_zero, List.set_cons_succ, i64_w, i32_w]
                        rfl
                      refine pure_ (i := 14) (N := some 81) (v := undef) (a' := ?_) #[true, true, true, true, true, true, true, true, true, true, true, true, true, true, true, false, false, false, false, false, false, false] rfl rfl (any_of HT_.out (by kernel_rfl)) (fun _ _ _ h => h) (Or.inr ⟨by rfl, rfl⟩) ?_ ?_
                      rotate_left
                      · simp only [Act.put, List.setIfInBounds_toArray, List.set_cons_zero, List.set_cons_succ, i64_w, i32_w]
                        rfl
                      refine pure_ (i := 15) (N := some 82) (v := undef) (a' := ?_) #[true, true, true, true, true, true, true, true, true, true, true, true, true, true, true, true, false, false, false, false, false, false] rfl rfl (any_of HT_.out (by kernel_rfl)) (fun _ _ _ h => h) (Or.inr ⟨by rfl, rfl⟩) ?_ ?_
                      rotate_left
                      · simp only [Act.put, List.setIfInBounds_toArray, List.set_cons_zero, List.set_cons_succ, i64_w, i32_w]
                        rfl
                      refine pure_ (i := 16) (N := some 83) (v := undef) (a' := ?_) #[true, true, true, true, true, true, true, true, true, true, true, true, true, true, true, true, true, false, false, false, false, false] rfl rfl (any_of HT_.out (by kernel_rfl)) (fun _ _ _ h => h) (Or.inr ⟨by rfl, rfl⟩) ?_ ?_
                      rotate_left
                      · simp only [Act.put, List.setIfInBounds_toArray, List.set_cons_zero, List.set_cons_succ, i64_w, i32_w]
                        rfl
                      refine pure_ (i := 17) (N := some 84) (v := ?_) (a' := ?_) #[true, true, true, true, true, true, true, true, true, true, true, true, true, true, true, true, true, true, false, false, false, false] rfl rfl (any_of HT_.out (by kernel_rfl)) (fun _ _ _ h => h) (Or.inl ⟨by rfl, ?_⟩) ?_ ?_
                      rotate_left
                      · intro w'
                        go_simp
                        with_reducible rfl
                      rotate_left
                      · simp only [Act.put, List.setIfInBounds_toArray, List.set_cons_zero, List.set_cons_succ, i64_w, i32_w]
                        rfl
                      refine pure_ (i := 18) (N := some 85) (v := ?_) (a' := ?_) #[true, true, true, true, true, true, true, true, true, true, true, true, true, true, true, true, true, true, true, false, false, false] rfl rfl (any_of HT_.out (by kernel_rfl)) (fun _ _ _ h => h) (Or.inl ⟨by rfl, ?_⟩) ?_ ?_
                      rotate_left
                      · intro w'
                        go_simp
                        with_reducible rfl
                      rotate_left
                      · simp only [Act.put, List.setIfInBounds_toArray, List.set_cons_zero, List.set_cons_succ, i64_w, i32_w]
                        rfl
                      refine pure_ (i := 19) (N := some 86) (v := undef) (a' := ?_) #[true, true, true, true, true, true, true, true, true, true, true, true, true, true, true, true, true, true, true, true, false, false] rfl rfl (any_of HT_.out (by kernel_rfl)) (fun _ _ _ h => h) (Or.inr ⟨by rfl, rfl⟩) ?_ ?_
                      rotate_left
                      · simp only [Act.put, List.setIfInBounds_toArray, List.set_cons_zero, List.set_cons_succ, i64_w, i32_w]
                        rfl
                      refine pure_ (i := 20) (N := some 87) (v := ?_) (a' := ?_) #[true, true, true, true, true, true, true, true, true, true, true, true, true, true, true, true, true, true, true, true, true, false] rfl rfl (any_of HT_.out (by kernel_rfl)) (fun _ _ _ h => h) (Or.inl ⟨by rfl, ?_⟩) ?_ ?_
                      rotate_left
                      · intro w'
                        go_simp
                        with_reducible rfl
                      rotate_left
                      · simp only [Act.put, List.setIfInBounds_toArray, List.set_cons_zero, List.set_cons_succ, i64_w, i32_w]
                        rfl
                      refine pure_ (i := 21) (N := some 6) (v := ?_) (a' := ?_) #[true, true, true, true, true, true, true, true, true, true, true, true, true, true, true, true, true, true, true, true, true, true] rfl rfl (any_of HT_.out (by kernel_rfl)) (fun _ _ _ h => h) (Or.inl ⟨by rfl, ?_⟩) ?_ ?_
                      rotate_left
                      · intro w'
                        go_simp
                        with_reducible rfl
                      rotate_left
                      · simp only [Act.put, List.setIfInBounds_toArray, List.set_cons_zero, List.set_cons_succ, i64_w, i32_w]
                        rfl
                      refine done_ (done_of HT_.out (by kernel_rfl)) ?_
                      try go_wp2
                      go_ret
                      exact ⟨by first | rfl | (simp [errW_none, errW_some] <;> rfl) | (simp [*, errW_none, errW_some] <;> rfl), by repeat (first | (with_reducible first | exact HB.out | apply below_alloc | apply pw_below_drewN | apply below_drew1 | refine below_set ?_ GE188.out) | exact HB.out)⟩
                    | succ j10 =>
                      obtain ⟨I, hI, hIj, hM⟩ := HM.out
                      obtain ⟨g7, eA, M⟩ : ∃ g, Ao74 = some ⟨g, 0, none⟩ ∧ MkInv w.heap.size Bm g x7_2.length I w79 wr := hM.resolve_left (fun h => by omega)
                      subst eA
                      clear HM hM
                      obtain ⟨cs7, hc7, hs7, hel⟩ := M.row
                      obtain ⟨v3, hv3, A3, n3, c3, e3, hEl⟩ := hel I (Nat.le_refl _) (by omega)
                      subst e3
                      clear hel hEl
                      have b10 : decide (i10 < (x7_2.length : Int)) = true := decide_eq_true (by omega)
                      have p10 : (0 ≤ i10) = True := eq_true (by omega)
                      have q10 : (i10 < (x7_2.length : Int)) = True := eq_true (by omega)
                      have hx7 : wr.cell? ⟨g7, i10.toNat * 4 + 3, none⟩ = some (.slice A3 n3 c3) := by rw [hI, Int.toNat_natCast]; exact (blk_cell hc7 _).trans hv3
                      have HI := Aside0.mk (And.intro hI hIj)
                      have AM : Aside0 (MkInv w.heap.size Bm g7 x7_2.length I w79 wr ∧ wr.heap[g7]? = some (.cells cs7 26 (0, 0))) := ⟨M, hc7⟩
                      have HV := Aside0.mk (And.intro hv3 hs7)
                      clear hI hIj M hc7 hv3 hs7
                      go_wp2
                      clear hx7
                      go_loopg [11] n3 (fun j v11 w' => ∃ i : Int, v11 = .int .i64 i ∧ Aside0 (∃ K : Nat, i = (K : Int) ∧ K + j = n3) ∧ Aside0 (MkInv w.heap.size Bm g7 x7_2.length I w79 w' ∧ w'.heap[g7]? = some (.cells cs7 26 (0, 0))))
                      case atStart => exact ⟨0, rfl, ⟨0, rfl, by omega⟩, AM⟩
                      case round =>
                        clear AM
                        obtain ⟨i11, rfl, HK, AM⟩ := hrel
                        have hx7 : wr.cell? ⟨g7, i10.toNat * 4 + 3, none⟩ = some (.slice A3 n3 c3) := by rw [HI.out.1, Int.toNat_natCast]; exact (blk_cell AM.out.2 _).trans HV.out.1
                        cases gk with
                        | zero =>
                          have b11 : decide (i11 < (n3 : Int)) = false := decide_eq_false (by obtain ⟨K, h1, h2⟩ := HK.out; omega)
                          obtain ⟨u0, hu0⟩ := cell_in AM.out.2 (i10.toNat * 4) (by have := HI.out.1; have := HI.out.2; have := HV.out.2; omega)
                          obtain ⟨u1, hu1⟩ := cell_in AM.out.2 (i10.toNat * 4 + 1) (by have := HI.out.1; have := HI.out.2; have := HV.out.2; omega)
                          obtain ⟨u2, hu2⟩ := cell_in AM.out.2 (i10.toNat * 4 + 2) (by have := HI.out.1; have := HI.out.2; have := HV.out.2; omega)
                          have hf0 := blk_frozen AM.out.2 (i10.toNat * 4)
                          have hf1 := blk_frozen AM.out.2 (i10.toNat * 4 + 1)
                          have hf2 := blk_frozen AM.out.2 (i10.toNat * 4 + 2)
                          have hf3 := blk_frozen AM.out.2 (i10.toNat * 4 + 3)
                          have HW10 : Aside0 (wrap64 (i10 + 1) = ((I + 1 : Nat) : Int)) := ⟨by have h1 := HI.out.1; have h2 := HI.out.2; have h3 := AM.out.1.nle; simp only [maxLen] at h3; unfold wrap64; omega⟩
                          go_wp2
                          go_roundg j10
                          case measure => omega
                          case rel => exact ⟨_, rfl, ⟨I + 1, HW10.out, by have := HI.out.2; omega, .inr ⟨g7, rfl, AM.out.1.next.set4 g7 (i10.toNat * 4) _ _ _ _ AM.out.1.glo AM.out.1.ghi (fun _ => by have := HI.out.1; omega)⟩⟩⟩
                        | succ j11 =>
                          obtain ⟨K, hK, hKj⟩ := HK.out
                          obtain ⟨b11, csb, eb, hcb, hsb, hbg, hblo, hbhi, hbm⟩ := AM.out.1.el AM.out.2 HV.out.1 (by have := HI.out.2; omega) (by omega)
                          subst eb
                          clear HK
                          have b11_ : decide (i11 < (n3 : Int)) = true := decide_eq_true (by omega)
                          have p11 : (0 ≤ i11) = True := eq_true (by omega)
                          have q11 : (i11 < (n3 : Int)) = True := eq_true (by omega)
                          obtain ⟨u0, hu0⟩ := cell_in hcb (i11.toNat * 4) (by omega)
                          obtain ⟨u1, hu1⟩ := cell_in hcb (i11.toNat * 4 + 1) (by omega)
                          obtain ⟨u2, hu2⟩ := cell_in hcb (i11.toNat * 4 + 2) (by omega)
                          obtain ⟨u3, hu3⟩ := cell_in hcb (i11.toNat * 4 + 3) (by omega)
                          have hf0 := blk_frozen hcb (i11.toNat * 4)
                          have hf1 := blk_frozen hcb (i11.toNat * 4 + 1)
                          have hf2 := blk_frozen hcb (i11.toNat * 4 + 2)
                          have hf3 := blk_frozen hcb (i11.toNat * 4 + 3)
                          have HW11 : Aside0 (wrap64 (i11 + 1) = ((K + 1 : Nat) : Int)) := ⟨by simp only [maxLen] at hbm; unfold wrap64; omega⟩
                          have HF : Aside0 (b11 ≠ g7 ∧ w.heap.size ≤ b11 ∧ b11 < Bm ∧ K + 1 + j11 = n3) := ⟨hbg, hblo, hbhi, by omega⟩
                          clear hK hKj hsb hbm hbg hblo hbhi
                          go_wp2
                          go_roundg j11
                          case measure => omega
                          case rel => exact ⟨_, rfl, ⟨K + 1, HW11.out, HF.out.2.2.2⟩, ⟨AM.out.1.set4 b11 (i11.toNat * 4) _ _ _ _ HF.out.2.1 HF.out.2.2.1 (fun e => absurd e HF.out.1), (heap_set4 (Ne.symm HF.out.1) _ _ _ _ _).trans AM.out.2⟩⟩
              · replace c23 := Bool.eq_false_iff.mpr c23
                subst c23
                have H1 : (some false) = some r := by rw [if_neg (show ¬ (false = true) by decide)] at H; exact H
                clear H
                have H := H1
                clear H1
                obtain rfl := Option.some.inj H
                obtain ⟨Ao89, co89, eo89⟩ := Kd.R_slice HO_7.out
                subst eo89
                try go_wp2_with (first | ((with_reducible refine gate_callee (f := 15) rfl ?_); refine goesL_ (some 38) rfl rfl Try.func15 (by kernel_rfl) rfl #[.slice Ao89 x7_2.length co89] rfl (by (try simp only [List.map_toArray, List.map_cons, List.map_nil]); first | done | rfl | (simp only [List.length_drop, List.length_take]; rfl)) ?_; (with_reducible refine (code_List.calls k2 _ _ x7_2 t182 t183 t184 t185 _ ?side1 ?side2 A20.out).mono ?_); (case side1 => repeat (first | exact (Kd.R_reads' HO_7.out).2.2 | (with_reducible refine Kd.C_alloc ?_ _) | (with_reducible refine Kd.C_drewN ?_ _) | (with_reducible refine Kd.C_drew ?_))); (case side2 => exact (Kd.R_reads' HO_7.out).2.1); rintro e w90 ⟨v186, rfl, ho0, hb⟩; refine ⟨_, rfl, ?_⟩; have AP := Aside0.mk (Apart2.made (by (with_reducible repeat (first | apply Kd.R_alloc | apply Kd.R_drewN | apply Kd.R_drew)); exact HO_7.out) hb ho0 (below_size (by repeat (first | (with_reducible first | exact HB.out | apply below_alloc | apply pw_below_drewN | apply below_drew1) | exact HB.out)))); have n0_ := Aside0.mk (Kd.R_elder' (by (with_reducible repeat (first | apply Kd.R_alloc | apply Kd.R_drewN | apply Kd.R_drew)); exact HO_7.out) (Kd.R_base ho0) hb); have n1_ := Aside0.mk (Kd.R_lower (Kd.R_new' ho0 (Kd.R_lt (by (with_reducible repeat (first | apply Kd.R_alloc | apply Kd.R_drewN | apply Kd.R_drew)); exact HO_7.out))) (below_size (by repeat (first | (with_reducible first | exact HB.out | apply below_alloc | apply pw_below_drewN | apply below_drew1) | exact HB.out)))); have n2_ := Aside0.mk (below_step (by repeat (first | (with_reducible first | exact HB.out | apply below_alloc | apply pw_below_drewN | apply below_drew1) | exact HB.out)) hb); clear HO_7; clear HB; have HO_7 := n0_; have HO187 := n1_; have HB := n2_; clear n0_ n1_ n2_; (try clear hb); (try clear hb2); (try clear hk); (try clear hi); (try clear ho0)) | ((with_reducible refine gate_dst (N := 9) rfl ?_); refine box_event ?hg (N := 9) ?hd (cs := #[.int .i64 0, .int .u64 0, .string (⟨#[]⟩ : ByteArray), .slice none 0 0]) (t := 26) ?hr ?_; (case hd => rfl); (case hg => rfl); (case hr => first | (go_simp; done) | (go_simp; rfl)); intro gb188 hg w91 hbox hb; have AP3 := Aside0.mk (Apart2.box AP.out hg hb); clear AP; have n0_ := Aside0.mk (Kd.R_below (Kd.R_elderB (by (with_reducible repeat (first | apply Kd.R_alloc | apply Kd.R_drewN | apply Kd.R_drew)); exact HO_7.out) gb188 (Nat.le_of_eq hg.symm)) hb); have n1_ := Aside0.mk (Kd.R_below (Kd.R_elderB (by (with_reducible repeat (first | apply Kd.R_alloc | apply Kd.R_drewN | apply Kd.R_drew)); exact HO187.out) gb188 (Nat.le_of_eq hg.symm)) hb); have n2_ := Aside0.mk (below_step (by repeat (first | (with_reducible first | exact HB.out | apply below_alloc | apply pw_below_drewN | apply below_drew1) | exact HB.out)) hb); have n3_ := Aside0.mk (hbox); have n4_ := Aside0.mk ((by rw [hg]; exact (below_size (by repeat (first | (with_reducible first | exact HB.out | apply below_alloc | apply pw_below_drewN | apply below_drew1) | exact HB.out))) : w.heap.size ≤ gb188)); have n5_ := Aside0.mk ((by rw [hg]; exact (below_size (by repeat (first | (with_reducible first | exact HB.out | apply below_alloc | apply pw_below_drewN | apply below_drew1) | exact HB.out))) : w.heap.size ≤ gb188)); clear HO_7; clear HO187; clear HB; have HO_7 := n0_; have HO187 := n1_; have HB := n2_; have BK188 := n3_; have GW188 := n4_; have GE188 := n5_; clear n0_ n1_ n2_ n3_ n4_ n5_; clear hb hbox hg; have hcz92_0 : w91.cell? ⟨gb188, 0, none⟩ = some (.int .i64 0) := (blk_cell BK188.out 0).trans rfl; have hcz92_1 : w91.cell? ⟨gb188, 1, none⟩ = some (.int .u64 0) := (blk_cell BK188.out 1).trans rfl; have hcz92_2 : w91.cell? ⟨gb188, 2, none⟩ = some (.string (⟨#[]⟩ : ByteArray)) := (blk_cell BK188.out 2).trans rfl; have hcz92_3 : w91.cell? ⟨gb188, 3, none⟩ = some (.slice none 0 0) := (blk_cell BK188.out 3).trans rfl; have hfz92_0 := blk_frozen BK188.out 0; have hfz92_1 := blk_frozen BK188.out 1; have hfz92_2 := blk_frozen BK188.out 2; have hfz92_3 := blk_frozen BK188.out 3; obtain ⟨Ao93, co93, eo93⟩ := Kd.R_slice HO187.out; subst eo93))
                have n0_ : Aside0 (Kd.R k26 26 ((((w91.setCell ⟨gb188, 0, none⟩ (.int .i64 t182)).setCell ⟨gb188, 1, none⟩ (.int .u64 t183)).setCell ⟨gb188, 2, none⟩ (.string t184)).setCell ⟨gb188, 3, none⟩ (.slice Ao93 t185.length co93)) w.heap.size (fun k_ => some k_ ≠ (.slice Ao93 t185.length co93 : Value).ownBlock ∧ k_ ≠ gb188) (.slice Ao89 x7_2.length co89) x7_2) := ⟨by (with_reducible repeat (first | apply Kd.R_alloc | apply Kd.R_drewN | apply Kd.R_drew)); exact Kd.R_mono (Kd.R_far (p := ⟨gb188, 3, none⟩) (Kd.R_far (p := ⟨gb188, 2, none⟩) (Kd.R_far (p := ⟨gb188, 1, none⟩) (Kd.R_far (p := ⟨gb188, 0, none⟩) (Kd.R_mono HO_7.out (fun k_ hk => (⟨hk, hk.2⟩ : _ ∧ k_ ≠ gb188))) (fun _ hk => hk.2) (.int .i64 t182)) (fun _ hk => hk.2) (.int .u64 t183)) (fun _ hk => hk.2) (.string t184)) (fun _ hk => hk.2) (.slice Ao93 t185.length co93)) (fun _ hk => ⟨hk.1.1.2, hk.1.2⟩)⟩
                have n1_ : Aside0 (Kd.R k26 26 ((((w91.setCell ⟨gb188, 0, none⟩ (.int .i64 t182)).setCell ⟨gb188, 1, none⟩ (.int .u64 t183)).setCell ⟨gb188, 2, none⟩ (.string t184)).setCell ⟨gb188, 3, none⟩ (.slice Ao93 t185.length co93)) w.heap.size (fun k_ => some k_ ≠ (.slice Ao89 x7_2.length co89 : Value).ownBlock ∧ k_ ≠ gb188) (.slice Ao93 t185.length co93) t185) := ⟨by (with_reducible repeat (first | apply Kd.R_alloc | apply Kd.R_drewN | apply Kd.R_drew)); exact Kd.R_mono (Kd.R_far (p := ⟨gb188, 3, none⟩) (Kd.R_far (p := ⟨gb188, 2, none⟩) (Kd.R_far (p := ⟨gb188, 1, none⟩) (Kd.R_far (p := ⟨gb188, 0, none⟩) (Kd.R_mono HO187.out (fun k_ hk => (⟨hk, hk.2⟩ : _ ∧ k_ ≠ gb188))) (fun _ hk => hk.2) (.int .i64 t182)) (fun _ hk => hk.2) (.int .u64 t183)) (fun _ hk => hk.2) (.string t184)) (fun _ hk => hk.2) (.slice Ao93 t185.length co93)) (fun _ hk => ⟨hk.1.1.2, hk.1.2⟩)⟩
                have n2_ : Aside0 (((((w91.setCell ⟨gb188, 0, none⟩ (.int .i64 t182)).setCell ⟨gb188, 1, none⟩ (.int .u64 t183)).setCell ⟨gb188, 2, none⟩ (.string t184)).setCell ⟨gb188, 3, none⟩ (.slice Ao93 t185.length co93)).heap[gb188]? = some (.cells #[.int .i64 t182, .int .u64 t183, .string t184, .slice Ao93 t185.length co93] 26 (0, 0))) := ⟨by (with_reducible repeat (first | refine blk_drewN ?_ _ | refine blk_drew ?_ | refine blk_alloc ?_ _)); refine blk_put (cs := #[.int .i64 t182, .int .u64 t183, .string t184, .slice none 0 0]) ?_ 3 _ rfl; (with_reducible repeat (first | refine blk_drewN ?_ _ | refine blk_drew ?_ | refine blk_alloc ?_ _)); refine blk_put (cs := #[.int .i64 t182, .int .u64 t183, .string (⟨#[]⟩ : ByteArray), .slice none 0 0]) ?_ 2 _ rfl; (with_reducible repeat (first | refine blk_drewN ?_ _ | refine blk_drew ?_ | refine blk_alloc ?_ _)); refine blk_put (cs := #[.int .i64 t182, .int .u64 0, .string (⟨#[]⟩ : ByteArray), .slice none 0 0]) ?_ 1 _ rfl; (with_reducible repeat (first | refine blk_drewN ?_ _ | refine blk_drew ?_ | refine blk_alloc ?_ _)); refine blk_put (cs := #[.int .i64 0, .int .u64 0, .string (⟨#[]⟩ : ByteArray), .slice none 0 0]) ?_ 0 _ rfl; (with_reducible repeat (first | refine blk_drewN ?_ _ | refine blk_drew ?_ | refine blk_alloc ?_ _)); exact BK188.out⟩
                have n3_ : Aside0 (Below w.heap.size w ((((w91.setCell ⟨gb188, 0, none⟩ (.int .i64 t182)).setCell ⟨gb188, 1, none⟩ (.int .u64 t183)).setCell ⟨gb188, 2, none⟩ (.string t184)).setCell ⟨gb188, 3, none⟩ (.slice Ao93 t185.length co93))) := ⟨by repeat (first | (with_reducible first | exact HB.out | apply below_alloc | apply pw_below_drewN | apply below_drew1 | refine below_set ?_ GE188.out) | exact HB.out)⟩
                (try clear HO_7)
                (try clear HO187)
                (try clear BK188)
                (try clear HB)
                have n9_ : Aside0 (Apart3 w.heap.size ((((w91.setCell ⟨gb188, 0, none⟩ (.int .i64 t182)).setCell ⟨gb188, 1, none⟩ (.int .u64 t183)).setCell ⟨gb188, 2, none⟩ (.string t184)).setCell ⟨gb188, 3, none⟩ (.slice Ao93 t185.length co93)) (.slice Ao89 x7_2.length co89) (.slice Ao93 t185.length co93) x7_2 t185 gb188) := ⟨(((AP3.out.set 0 _).set 1 _).set 2 _).set 3 _⟩
                clear AP3
                generalize ((((w91.setCell ⟨gb188, 0, none⟩ (.int .i64 t182)).setCell ⟨gb188, 1, none⟩ (.int .u64 t183)).setCell ⟨gb188, 2, none⟩ (.string t184)).setCell ⟨gb188, 3, none⟩ (.slice Ao93 t185.length co93)) = w94 at n0_ n1_ n2_ n3_ n9_ ⊢
                have HO_7 := n0_
                have HO187 := n1_
                have BK188 := n2_
                have HB := n3_
                clear n0_ n1_ n2_ n3_
                obtain ⟨Bm, hB1, hB2, hB3, hB4⟩ := n9_.out
                have AM := MkInv.made hB3
                have HC := Aside0.mk hB4
                have HBm := Aside0.mk (And.intro hB1 hB2)
                have AM0 : Aside0 (x7_2.length = 0 ∧ w94 = w94 ∨ ∃ g, Ao89 = some ⟨g, 0, none⟩ ∧ MkInv w.heap.size Bm g x7_2.length 0 w94 w94) := ⟨AM.imp (fun h => ⟨h, rfl⟩) id⟩
                clear AM hB1 hB2 hB3 hB4 HO_7 HO187 n9_
                go_loopg [10, 11] (x7_2.length) (fun j v10 v11 w' => ∃ i : Int, v10 = .int .i64 i ∧ Aside0 (∃ I : Nat, i = (I : Int) ∧ I + j = x7_2.length ∧ (x7_2.length = 0 ∧ w' = w94 ∨ ∃ g, Ao89 = some ⟨g, 0, none⟩ ∧ MkInv w.heap.size Bm g x7_2.length I w94 w')))
                case atStart => exact ⟨0, rfl, ⟨0, rfl, by omega, AM0.out⟩⟩
                case round =>
                  clear AM0
                  obtain ⟨i10, rfl, HM⟩ := hrel
                  cases gk with
                  | zero =>
                    have b10 : decide (i10 < (x7_2.length : Int)) = false := decide_eq_false (by obtain ⟨I, h1, h2, _⟩ := HM.out; omega)
                    have HS : Aside0 ((∀ k, Bm ≤ k → wr.heap[k]? = w94.heap[k]?) ∧ Below w.heap.size w94 wr) := ⟨by
                      obtain ⟨I, _, _, h | ⟨g, _, h⟩⟩ := HM.out
                      · rw [h.2]; exact ⟨fun _ _ => rfl, Below.refl _ _⟩
                      · exact ⟨fun k hk => h.same k (.inr hk), h.bel⟩⟩
                    clear HM
                    go_wp2
                    have n0_ : Aside0 (Kd.R k26 26 wr w.heap.size (fun k_ => some k_ ≠ (.slice Ao93 t185.length co93 : Value).ownBlock ∧ k_ ≠ gb188) (.slice none 0 0) []) := ⟨Kd.R_nil _ _ _ _ _⟩
                    have n1_ : Aside0 (Kd.R k26 26 wr w.heap.size (fun k_ => some k_ ≠ (.slice none 0 0 : Value).ownBlock ∧ k_ ≠ gb188) (.slice Ao93 t185.length co93) t185) := ⟨Kd.R_mono (Kd.R_move HC.out (fun k hk => HS.out.1 k hk.1)) (fun k hk => ⟨by simp [Value.ownBlock], hk.2⟩)⟩
                    have n2_ := Aside0.mk ((HS.out.1 gb188 HBm.out.2).trans BK188.out)
                    have n3_ := Aside0.mk (HB.out.trans HS.out.2)
                    clear BK188 HB HC HS HBm
                    have HO_7 := n0_
                    have HO187 := n1_
                    have BK188 := n2_
                    have HB := n3_
                    clear n0_ n1_ n2_ n3_
                    have n0_ := Aside0.mk (Kd.R_drew HO_7.out)
                    have n1_ := Aside0.mk (Kd.R_drew HO187.out)
                    have n2_ := Aside0.mk (blk_drew BK188.out)
                    have n3_ := Aside0.mk (below_drew1 HB.out)
                    clear HO_7
                    clear HO187
                    clear BK188
                    clear HB
                    have HO_7 := n0_
                    have HO187 := n1_
                    have BK188 := n2_
                    have HB := n3_
                    clear n0_ n1_ n2_ n3_
                    refine start_ (n := 22) (S := fun w' => w'.cell? ⟨gb188, 0, none⟩ = some (.int .i64 t182) ∧ w'.cell? ⟨gb188, 1, none⟩ = some (.int .u64 t183) ∧ w'.cell? ⟨gb188, 2, none⟩ = some (.string t184) ∧ w'.cell? ⟨gb188, 3, none⟩ = some (.slice Ao93 t185.length co93)) (ds := []) #[false, false, false, false, false, false, false, false, false, false, false, false, false, false, false, false, false, false, false, false, false, false] (by kernel_rfl) rfl rfl ⟨(blk_cell BK188.out 0).trans rfl, (blk_cell BK188.out 1).trans rfl, (blk_cell BK188.out 2).trans rfl, (blk_cell BK188.out 3).trans rfl⟩ (fun hHeld => ?_); refine with_tabW minstrellaw07_CodeMakes.tab17 minstrellaw07_CodeMakes.bits17 (fun HT_ HW_ => ?_)
                    generalize wr.drew = w95 at HO_7 HO187 BK188 HB hHeld ⊢
                    refine pure_ (i := 1) (N := some 68) (v := ?_) (a' := ?_) #[false, true, false, false, false, false, false, false, false, false, false, false, false, false, false, false, false, false, false, false, false, false] rfl rfl (any_of HT_.out (by kernel_rfl)) (fun _ _ _ h => h) (Or.inl ⟨by rfl, ?_⟩) ?_ ?_
                    rotate_left
                    · intro w'
                      go_simp
                      with_reducible rfl
                    rotate_left
                    · simp only [Act.put, List.setIfInBounds_toArray, List.set_cons_zero, List.set_cons_succ, i64_w, i32_w]
                      rfl
                    refine take_ (i := 0) (N := some 67) (v := ?_) (a' := ?_) #[true, true, false, false, false, false, false, false, false, false, false, false, false, false, false, false, false, false, false, false, false, false] rfl rfl (take_ofW HT_.out HW_.out (by kernel_rfl)) (fun _ _ _ h => h) (Or.inl ⟨by rfl, ?_⟩) hHeld ?_ ?_
                    rotate_left
                    · rintro w' ⟨s0, s1, s2, s3⟩
                      go_simp
                      with_reducible rfl
                    rotate_left
                    · simp only [Act.put, List.setIfInBounds_toArray, List.set_cons_zero, List.set_cons_succ, i64_w, i32_w]
                      rfl
                    refine one_ (i := 2) (N := some 69) #[true, true, true, false, false, false, false, false, false, false, false, false, false, false, false, false, false, false, false, false, false, false] rfl rfl (one_of HT_.out (by kernel_rfl)) (by decide) (fun K hK => ?_)
                    refine goes_ Try.func16 (by kernel_rfl) rfl #[.slice A2 l2.length c2] (by rfl) rfl rfl (by (try simp only [List.map_toArray, List.map_cons, List.map_nil]); first | done | rfl | (simp only [List.length_drop, List.length_take]; rfl)) ?_
                    with_reducible refine (minstrelref07_List.calls (fun k_ => k_ < w.heap.size) _ _ l2 t189 t190 t191 t192 _ ?side1 A21.out).mono ?_
                    (case side1 => exact Kd.V_mk HC2.out (Kd.F_below (Kd.C_F k26_heap HR2.out) (by repeat (first | (with_reducible first | exact HB.out | apply below_alloc | apply pw_below_drewN | apply below_drew1 | refine below_set ?_ GE188.out) | exact HB.out))))
                    rintro e w96 ⟨v193, rfl, ho0, hb⟩
                    refine ⟨_, rfl, ?_⟩
                    have n0_ := Aside0.mk (Kd.R_below (by (with_reducible repeat (first | apply Kd.R_alloc | apply Kd.R_drewN | apply Kd.R_drew)); exact HO_7.out) hb)
                    have n1_ := Aside0.mk (Kd.R_below (by (with_reducible repeat (first | apply Kd.R_alloc | apply Kd.R_drewN | apply Kd.R_drew)); exact HO187.out) hb)
                    have n2_ := Aside0.mk (Kd.V_lower (Kd.V_mono (ok' := fun k_ => some k_ ≠ (.slice none 0 0 : Value).ownBlock ∧ some k_ ≠ (.slice Ao93 t185.length co93 : Value).ownBlock ∧ k_ ≠ gb188) ho0 (fun k_ hk_ => ⟨Or.elim hk_ (fun hs_ => fun e_ => Nat.not_le.2 hs_ (Kd.R_base HO_7.out k_ e_.symm)) (fun hn_ => (Kd.fresh' (Kd.R_lt (by (with_reducible repeat (first | apply Kd.R_alloc | apply Kd.R_drewN | apply Kd.R_drew)); exact HO_7.out)) k_ hn_)), Or.elim hk_ (fun hs_ => fun e_ => Nat.not_le.2 hs_ (Kd.R_base HO187.out k_ e_.symm)) (fun hn_ => (Kd.fresh' (Kd.R_lt (by (with_reducible repeat (first | apply Kd.R_alloc | apply Kd.R_drewN | apply Kd.R_drew)); exact HO187.out)) k_ hn_)), Or.elim hk_ (fun hs_ => fun e_ => Nat.not_le.2 hs_ (by rw [e_]; exact GW188.out)) (fun hn_ => (Kd.freshB (g := gb188) (o := .cells #[.int .i64 t182, .int .u64 t183, .string t184, .slice Ao93 t185.length co93] 26 (0, 0)) (by (with_reducible repeat (first | refine blk_drewN ?_ _ | refine blk_drew ?_ | refine blk_alloc ?_ _)); exact BK188.out) k_ hn_))⟩)) (below_size (by repeat (first | (with_reducible first | exact HB.out | apply below_alloc | apply pw_below_drewN | apply below_drew1 | refine below_set ?_ GE188.out) | exact HB.out))))
                    have n3_ := Aside0.mk (blk_below (g := gb188) (o := .cells #[.int .i64 t182, .int .u64 t183, .string t184, .slice Ao93 t185.length co93] 26 (0, 0)) (by (with_reducible repeat (first | refine blk_drewN ?_ _ | refine blk_drew ?_ | refine blk_alloc ?_ _)); exact BK188.out) hb)
                    have n4_ := Aside0.mk (below_step (by repeat (first | (with_reducible first | exact HB.out | apply below_alloc | apply pw_below_drewN | apply below_drew1 | refine below_set ?_ GE188.out) | exact HB.out)) hb)
                    clear HO_7
                    clear HO187
                    clear BK188
                    clear HB
                    have HO_7 := n0_
                    have HO187 := n1_
                    have HO194 := n2_
                    have BK188 := n3_
                    have HB := n4_
                    clear n0_ n1_ n2_ n3_ n4_
                    (try clear hb)
                    (try clear hb2)
                    (try clear hk)
                    (try clear hi)
                    (try clear ho0)
                    obtain ⟨Ao97, co97, eo97⟩ := Kd.V_slice HO194.out
                    (first | subst eo97 | (injection eo97 with f1_ f2_ f3_; have f4_ := f1_.symm; have f5_ := f3_.symm; clear f1_ f2_ f3_; subst f4_; subst f5_))
                    refine hK.out _ _ ⟨(blk_cell BK188.out 0).trans rfl, (blk_cell BK188.out 1).trans rfl, (blk_cell BK188.out 2).trans rfl, (blk_cell BK188.out 3).trans rfl⟩ (fun hHeld => ?_)
                    clear hK K
                    refine norm_ (a' := ?_) ?_ ?_
                    rotate_left
                    · show Act.put _ (some 69) _ = _
                      simp only [Act.put, List.setIfInBounds_toArray, List.set_cons_zero, List.set_cons_succ, i64_w, i32_w]
                      rfl
                    refine one_ (i := 3) (N := some 70) #[true, true, true, true, false, false, false, false, false, false, false, false, false, false, false, false, false, false, false, false, false, false] rfl rfl (one_of HT_.out (by kernel_rfl)) (by decide) (fun K hK => ?_)
                    refine goes_ Try.func10 (by kernel_rfl) rfl #[.agg #[.int .i64 t182, .int .u64 t183, .string t184, .slice Ao93 t185.length co93], .agg #[.int .i64 t189, .int .u64 t190, .string t191, .slice Ao97 t192.length co97]] (by rfl) rfl rfl (by (try simp only [List.map_toArray, List.map_cons, List.map_nil]); first | done | rfl | (simp only [List.length_drop, List.length_take]; rfl)) ?_
                    with_reducible refine (minstrelref07_Same.calls k2 t182 t183 t184 _ _ t185 t189 t190 t191 _ _ t192 false _ ?side1 ?side2 ?side3 ?side4 A22.out).mono ?_
                    (case side1 => repeat (first | exact (Kd.R_reads' HO187.out).2.2 | (with_reducible refine Kd.C_alloc ?_ _) | (with_reducible refine Kd.C_drewN ?_ _) | (with_reducible refine Kd.C_drew ?_)))
                    (case side2 => exact (Kd.R_reads' HO187.out).2.1)
                    (case side3 => repeat (first | exact (Kd.V_reads' HO194.out).2.2 | (with_reducible refine Kd.C_alloc ?_ _) | (with_reducible refine Kd.C_drewN ?_ _) | (with_reducible refine Kd.C_drew ?_)))
                    (case side4 => exact (Kd.V_reads' HO194.out).2.1)
                    rintro e w98 ⟨rfl, hb⟩
                    refine ⟨_, rfl, ?_⟩
                    have n0_ := Aside0.mk (Kd.R_below (by (with_reducible repeat (first | apply Kd.R_alloc | apply Kd.R_drewN | apply Kd.R_drew)); exact HO_7.out) hb)
                    have n1_ := Aside0.mk (Kd.R_below (by (with_reducible repeat (first | apply Kd.R_alloc | apply Kd.R_drewN | apply Kd.R_drew)); exact HO187.out) hb)
                    have n2_ := Aside0.mk (Kd.V_below (by (with_reducible repeat (first | apply Kd.V_alloc | apply Kd.V_drewN | apply Kd.V_drew)); exact HO194.out) hb)
                    have n3_ := Aside0.mk (blk_below (g := gb188) (o := .cells #[.int .i64 t182, .int .u64 t183, .string t184, .slice Ao93 t185.length co93] 26 (0, 0)) (by (with_reducible repeat (first | refine blk_drewN ?_ _ | refine blk_drew ?_ | refine blk_alloc ?_ _)); exact BK188.out) hb)
                    have n4_ := Aside0.mk (below_step (by repeat (first | (with_reducible first | exact HB.out | apply below_alloc | apply pw_below_drewN | apply below_drew1 | refine below_set ?_ GE188.out) | exact HB.out)) hb)
                    clear HO_7
                    clear HO187
                    clear HO194
                    clear BK188
                    clear HB
                    have HO_7 := n0_
                    have HO187 := n1_
                    have HO194 := n2_
                    have BK188 := n3_
                    have HB := n4_
                    clear n0_ n1_ n2_ n3_ n4_
                    (try clear hb)
                    (try clear hb2)
                    (try clear hk)
                    (try clear hi)
                    refine hK.out _ _ ⟨(blk_cell BK188.out 0).trans rfl, (blk_cell BK188.out 1).trans rfl, (blk_cell BK188.out 2).trans rfl, (blk_cell BK188.out 3).trans rfl⟩ (fun hHeld => ?_)
                    clear hK K
                    refine norm_ (a' := ?_) ?_ ?_
                    rotate_left
                    · show Act.put _ (some 70) _ = _
                      simp only [Act.put, List.setIfInBounds_toArray, List.set_cons_zero, List.set_cons_succ, i64_w, i32_w]
                      rfl
                    refine pure_ (i := 4) (N := some 71) (v := ?_) (a' := ?_) #[true, true, true, true, true, false, false, false, false, false, false, false, false, false, false, false, false, false, false, false, false, false] rfl rfl (any_of HT_.out (by kernel_rfl)) (fun _ _ _ h => h) (Or.inl ⟨by rfl, ?_⟩) ?_ ?_
                    rotate_left
                    · intro w'
                      go_simp
                      with_reducible rfl
                    rotate_left
                    · simp only [Act.put, List.setIfInBounds_toArray, List.set_cons_zero, List.set_cons_succ, i64_w, i32_w]
                      rfl
                    refine pure_ (i := 5) (N := some 72) (v := undef) (a' := ?_) #[true, true, true, true, true, true, false, false, false, false, false, false, false, false, false, false, false, false, false, false, false, false] rfl rfl (any_of HT_.out (by kernel_rfl)) (fun _ _ _ h => h) (Or.inr ⟨by rfl, rfl⟩) ?_ ?_
                    rotate_left
                    · simp only [Act.put, List.setIfInBounds_toArray, List.set_cons_zero, List.set_cons_succ, i64_w, i32_w]
                      rfl
                    refine pure_ (i := 6) (N := some 73) (v := undef) (a' := ?_) #[true, true, true, true, true, true, true, false, false, false, false, false, false, false, false, false, false, false, false, false, false, false] rfl rfl (any_of HT_.out (by kernel_rfl)) (fun _ _ _ h => h) (Or.inr ⟨by rfl, rfl⟩) ?_ ?_
                    rotate_left
                    · simp only [Act.put, List.setIfInBounds_toArray, List.set_cons_zero, List.set_cons_succ, i64_w, i32_w]
                      rfl
                    refine pure_ (i := 7) (N := some 74) (v := undef) (a' := ?_) #[true, true, true, true, true, true, true, true, false, false, false, false, false, false, false, false, false, false, false, false, false, false] rfl rfl (any_of HT_.out (by kernel_rfl)) (fun _ _ _ h => h) (Or.inr ⟨by rfl, rfl⟩) ?_ ?_
                    rotate_left
                    · simp only [Act.put, List.setIfInBounds_toArray, List.set_cons_zero, List.set_cons_succ, i64_w, i32_w]
                      rfl
                    refine pure_ (i := 8) (N := some 75) (v := undef) (a' := ?_) #[true, true, true, true, true, true, true, true, true, false, false, false, false, false, false, false, false, false, false, false, false, false] rfl rfl (any_of HT_.out (by kernel_rfl)) (fun _ _ _ h => h) (Or.inr ⟨by rfl, rfl⟩) ?_ ?_
                    rotate_left
                    · simp only [Act.put, List.setIfInBounds_toArray, List.set_cons_zero, List.set_cons_succ, i64_w, i32_w]
                      rfl
                    refine pure_ (i := 9) (N := some 76) (v := undef) (a' := ?_) #[true, true, true, true, true, true, true, true, true, true, false, false, false, false, false, false, false, false, false, false, false, false] rfl rfl (any_of HT_.out (by kernel_rfl)) (fun _ _ _ h => h) (Or.inr ⟨by rfl, rfl⟩) ?_ ?_
                    rotate_left
                    · simp only [Act.put, List.setIfInBounds_toArray, List.set_cons_zero, List.set_cons_succ, i64_w, i32_w]
                      rfl
                    refine pure_ (i := 10) (N := some 77) (v := ?_) (a' := ?_) #[true, true, true, true, true, true, true, true, true, true, true, false, false, false, false, false, false, false, false, false, false, false] rfl rfl (any_of HT_.out (by kernel_rfl)) (fun _ _ _ h => h) (Or.inl ⟨by rfl, ?_⟩) ?_ ?_
                    rotate_left
                    · intro w'
                      go_simp
                      with_reducible rfl
                    rotate_left
                    · simp only [Act.put, List.setIfInBounds_toArray, List.set_cons_zero, List.set_cons_succ, i64_w, i32_w]
                      rfl
                    refine pure_ (i := 11) (N := some 78) (v := ?_) (a' := ?_) #[true, true, true, true, true, true, true, true, true, true, true, true, false, false, false, false, false, false, false, false, false, false] rfl rfl (any_of HT_.out (by kernel_rfl)) (fun _ _ _ h => h) (Or.inl ⟨by rfl, ?_⟩) ?_ ?_
                    rotate_left
                    · intro w'
                      go_simp
                      with_reducible rfl
                    rotate_left
                    · simp only [Act.put, List.setIfInBounds_toArray, List.set_cons_zero, List.set_cons_succ, i64_w, i32_w]
                      rfl
                    refine pure_ (i := 12) (N := some 79) (v := undef) (a' := ?_) #[true, true, true, true, true, true, true, true, true, true, true, true, true, false, false, false, false, false, false, false, false, false] rfl rfl (any_of HT_.out (by kernel_rfl)) (fun _ _ _ h => h) (Or.inr ⟨by rfl, rfl⟩) ?_ ?_
                    rotate_left
                    · simp only [Act.put, List.setIfInBounds_toArray, List.set_cons_zero, List.set_cons_succ, i64_w, i32_w]
                      rfl
                    refine pure_ (i := 13) (N := some 80) (v := undef) (a' := ?_) #[true, true, true, true, true, true, true, true, true, true, true, true, true, true, false, false, false, false, false, false, false, false] rfl rfl (any_of HT_.out (by kernel_rfl)) (fun _ _ _ h => h) (Or.inr ⟨by rfl, rfl⟩) ?_ ?_
                    rotate_left
                    · simp only [Act.put, List.setIfInBounds_toArray, List.set_cons_zero, List.set_cons_succ, i64_w, i32_w]
                      rfl
                    refine pure_ (i := 14) (N := some 81) (v := undef) (a' := ?_) #[true, true, true, true, true, true, true, true, true, true, true, true, true, true, true, false, false, false, false, false, false, false] rfl rfl (any_of HT_.out (by kernel_rfl)) (fun _ _ _ h => h) (Or.inr ⟨by rfl, rfl⟩) ?_ ?_
                    rotate_left
                    · simp only [Act.put, List.setIfInBounds_toArray, List.set_cons_zero, List.set_cons_succ, i64_w, i32_w]
                      rfl
                    refine pure_ (i := 15) (N := some 82) (v := undef) (a' := ?_) #[true, true, true, true, true, true, true, true, true, true, true, true, true, true, true, true, false, false, false, false, false, false] rfl rfl (any_of HT_.out (by kernel_rfl)) (fun _ _ _ h => h) (Or.inr ⟨by rfl, rfl⟩) ?_ ?_
                    rotate_left
                    · simp only [Act.put, List.setIfInBounds_toArray, List.set_cons_zero, List.set_cons_succ, i64_w, i32_w]
                      rfl
                    refine pure_ (i := 16) (N := some 83) (v := undef) (a' := ?_) #[true, true, true, true, true, true, true, true, true, true, true, true, true, true, true, true, true, false, false, false, false, false] rfl rfl (any_of HT_.out (by kernel_rfl)) (fun _ _ _ h => h) (Or.inr ⟨by rfl, rfl⟩) ?_ ?_
                    rotate_left
                    · simp only [Act.put, List.setIfInBounds_toArray, List.set_cons_zero, List.set_cons_succ, i64_w, i32_w]
                      rfl
                    refine pure_ (i := 17) (N := some 84) (v := ?_) (a' := ?_) #[true, true, true, true, true, true, true, true, true, true, true, true, true, true, true, true, true, true, false, false, false, false] rfl rfl (any_of HT_.out (by kernel_rfl)) (fun _ _ _ h => h) (Or.inl ⟨by rfl, ?_⟩) ?_ ?_
                    rotate_left
                    · intro w'
                      go_simp
                      with_reducible rfl
                    rotate_left
                    · simp only [Act.put, List.setIfInBounds_toArray, List.set_cons_zero, List.set_cons_succ, i64_w, i32_w]
                      rfl
                    refine pure_ (i := 18) (N := some 85) (v := ?_) (a' := ?_) #[true, true, true, true, true, true, true, true, true, true, true, true, true, true, true, true, true, true, true, false, false, false] rfl rfl (any_of HT_.out (by kernel_rfl)) (fun _ _ _ h => h) (Or.inl ⟨by rfl, ?_⟩) ?_ ?_
                    rotate_left
                    · intro w'
                      go_simp
                      with_reducible rfl
                    rotate_left
                    · simp only [Act.put, List.setIfInBounds_toArray, List.set_cons_zero, List.set_cons_succ, i64_w, i32_w]
                      rfl
                    refine pure_ (i := 19) (N := some 86) (v := undef) (a' := ?_) #[true, true, true, true, true, true, true, true, true, true, true, true, true, true, true, true, true, true, true, true, false, false] rfl rfl (any_of HT_.out (by kernel_rfl)) (fun _ _ _ h => h) (Or.inr ⟨by rfl, rfl⟩) ?_ ?_
                    rotate_left
                    · simp only [Act.put, List.setIfInBounds_toArray, List.set_cons_zero, List.set_cons_succ, i64_w, i32_w]
                      rfl
                    refine pure_ (i := 20) (N := some 87) (v := ?_) (a' := ?_) #[true, true, true, true, true, true, true, true, true, true, true, true, true, true, true, true, true, true, true, true, true, false] rfl rfl (any_of HT_.out (by kernel_rfl)) (fun _ _ _ h => h) (Or.inl ⟨by rfl, ?_⟩) ?_ ?_
                    rotate_left
                    · intro w'
                      go_simp
                      with_reducible rfl
                    rotate_left
                    · simp only [Act.put, List.setIfInBounds_toArray, List.set_cons_zero, List.set_cons_succ, i64_w, i32_w]
                      rfl
                    refine pure_ (i := 21) (N := some 6) (v := ?_) (a' := ?_) #[true, true, true, true, true, true, true, true, true, true, true, true, true, true, true, true, true, true, true, true, true, true] rfl rfl (any_of HT_.out (by kernel_rfl)) (fun _ _ _ h => h) (Or.inl ⟨by rfl, ?_⟩) ?_ ?_
                    rotate_left
                    · intro w'
                      go_simp
                      with_reducible rfl
                    rotate_left
                    · simp only [Act.put, List.setIfInBounds_toArray, List.set_cons_zero, List.set_cons_succ, i64_w, i32_w]
                      rfl
                    refine done_ (done_of HT_.out (by kernel_rfl)) ?_
                    try go_wp2
                    go_ret
                    exact ⟨by first | rfl | (simp [errW_none, errW_some] <;> rfl) | (simp [*, errW_none, errW_some] <;> rfl), by repeat (first | (with_reducible first | exact HB.out | apply below_alloc | apply pw_below_drewN | apply below_drew1 | refine below_set ?_ GE188.out) | exact HB.out)⟩
                    
                  | succ j10 =>
                    obtain ⟨I, hI, hIj, hM⟩ := HM.out
                    obtain ⟨g7, eA, M⟩ : ∃ g, Ao89 = some ⟨g, 0, none⟩ ∧ MkInv w.heap.size Bm g x7_2.length I w94 wr := hM.resolve_left (fun h => by omega)
                    subst eA
                    clear HM hM
                    obtain ⟨cs7, hc7, hs7, hel⟩ := M.row
                    obtain ⟨v3, hv3, A3, n3, c3, e3, hEl⟩ := hel I (Nat.le_refl _) (by omega)
                    subst e3
                    clear hel hEl
                    have b10 : decide (i10 < (x7_2.length : Int)) = true := decide_eq_true (by omega)
                    have p10 : (0 ≤ i10) = True := eq_true (by omega)
                    have q10 : (i10 < (x7_2.length : Int)) = True := eq_true (by omega)
                    have hx7 : wr.cell? ⟨g7, i10.toNat * 4 + 3, none⟩ = some (.slice A3 n3 c3) := by rw [hI, Int.toNat_natCast]; exact (blk_cell hc7 _).trans hv3
                    have HI := Aside0.mk (And.intro hI hIj)
                    have AM : Aside0 (MkInv w.heap.size Bm g7 x7_2.length I w94 wr ∧ wr.heap[g7]? = some (.cells cs7 26 (0, 0))) := ⟨M, hc7⟩
                    have HV := Aside0.mk (And.intro hv3 hs7)
                    clear hI hIj M hc7 hv3 hs7
                    go_wp2
                    clear hx7
                    go_loopg [11] n3 (fun j v11 w' => ∃ i : Int, v11 = .int .i64 i ∧ Aside0 (∃ K : Nat, i = (K : Int) ∧ K + j = n3) ∧ Aside0 (MkInv w.heap.size Bm g7 x7_2.length I w94 w' ∧ w'.heap[g7]? = some (.cells cs7 26 (0, 0))))
                    case atStart => exact ⟨0, rfl, ⟨0, rfl, by omega⟩, AM⟩
                    case round =>
                      clear AM
                      obtain ⟨i11, rfl, HK, AM⟩ := hrel
                      have hx7 : wr.cell? ⟨g7, i10.toNat * 4 + 3, none⟩ = some (.slice A3 n3 c3) := by rw [HI.out.1, Int.toNat_natCast]; exact (blk_cell AM.out.2 _).trans HV.out.1
                      cases gk with
                      | zero =>
                        have b11 : decide (i11 < (n3 : Int)) = false := decide_eq_false (by obtain ⟨K, h1, h2⟩ := HK.out; omega)
                        obtain ⟨u0, hu0⟩ := cell_in AM.out.2 (i10.toNat * 4) (by have := HI.out.1; have := HI.out.2; have := HV.out.2; omega)
                        obtain ⟨u1, hu1⟩ := cell_in AM.out.2 (i10.toNat * 4 + 1) (by have := HI.out.1; have := HI.out.2; have := HV.out.2; omega)
                        obtain ⟨u2, hu2⟩ := cell_in AM.out.2 (i10.toNat * 4 + 2) (by have := HI.out.1; have := HI.out.2; have := HV.out.2; omega)
                        have hf0 := blk_frozen AM.out.2 (i10.toNat * 4)
                        have hf1 := blk_frozen AM.out.2 (i10.toNat * 4 + 1)
                        have hf2 := blk_frozen AM.out.2 (i10.toNat * 4 + 2)
                        have hf3 := blk_frozen AM.out.2 (i10.toNat * 4 + 3)
                        have HW10 : Aside0 (wrap64 (i10 + 1) = ((I + 1 : Nat) : Int)) := ⟨by have h1 := HI.out.1; have h2 := HI.out.2; have h3 := AM.out.1.nle; simp only [maxLen] at h3; unfold wrap64; omega⟩
                        go_wp2
                        go_roundg j10
                        case measure => omega
                        case rel => exact ⟨_, rfl, ⟨I + 1, HW10.out, by have := HI.out.2; omega, .inr ⟨g7, rfl, AM.out.1.next.set4 g7 (i10.toNat * 4) _ _ _ _ AM.out.1.glo AM.out.1.ghi (fun _ => by have := HI.out.1; omega)⟩⟩⟩
                      | succ j11 =>
                        obtain ⟨K, hK, hKj⟩ := HK.out
                        obtain ⟨b11, csb, eb, hcb, hsb, hbg, hblo, hbhi, hbm⟩ := AM.out.1.el AM.out.2 HV.out.1 (by have := HI.out.2; omega) (by omega)
                        subst eb
                        clear HK
                        have b11_ : decide (i11 < (n3 : Int)) = true := decide_eq_true (by omega)
                        have p11 : (0 ≤ i11) = True := eq_true (by omega)
                        have q11 : (i11 < (n3 : Int)) = True := eq_true (by omega)
                        obtain ⟨u0, hu0⟩ := cell_in hcb (i11.toNat * 4) (by omega)
                        obtain ⟨u1, hu1⟩ := cell_in hcb (i11.toNat * 4 + 1) (by omega)
                        obtain ⟨u2, hu2⟩ := cell_in hcb (i11.toNat * 4 + 2) (by omega)
                        obtain ⟨u3, hu3⟩ := cell_in hcb (i11.toNat * 4 + 3) (by omega)
                        have hf0 := blk_frozen hcb (i11.toNat * 4)
                        have hf1 := blk_frozen hcb (i11.toNat * 4 + 1)
                        have hf2 := blk_frozen hcb (i11.toNat * 4 + 2)
                        have hf3 := blk_frozen hcb (i11.toNat * 4 + 3)
                        have HW11 : Aside0 (wrap64 (i11 + 1) = ((K + 1 : Nat) : Int)) := ⟨by simp only [maxLen] at hbm; unfold wrap64; omega⟩
                        have HF : Aside0 (b11 ≠ g7 ∧ w.heap.size ≤ b11 ∧ b11 < Bm ∧ K + 1 + j11 = n3) := ⟨hbg, hblo, hbhi, by omega⟩
                        clear hK hKj hsb hbm hbg hblo hbhi
                        go_wp2
                        go_roundg j11
                        case measure => omega
                        case rel => exact ⟨_, rfl, ⟨K + 1, HW11.out, HF.out.2.2.2⟩, ⟨AM.out.1.set4 b11 (i11.toNat * 4) _ _ _ _ HF.out.2.1 HF.out.2.2.1 (fun e => absurd e HF.out.1), (heap_set4 (Ne.symm HF.out.1) _ _ _ _ _).trans AM.out.2⟩⟩
end Go.Proofs.Ytjcaieecafggiaa.Pr
