-- Written by a program of this claim's session, out of the translation.
import Derived.Test.YthjbdkgbibidkaaPt0
import Derived.Test.YthjbdkgbibidkaaPr2
import Derived.Test.YthjbdkgbibidkaaReverse
namespace Go.Proofs.Ythjbdkgbibidkaa.Pt
open Go.RowKit Go.Proofs.YthjbdkgbibidkaaW.PrintWords Go.Proofs.YthjbdkgbibidkaaW.PrintLast Go.Proofs.YthjbdkgbibidkaaW.PrintMore Go.Proofs.Ythjbdkgbibidkaa.Pr
attribute [local go_sem] max2_int min2_int max_two min_two max_three min_three max_four min_four   -- for this text's walks alone
set_option linter.unusedVariables false
set_option linter.unusedSimpArgs false

/-! ### text_Less: function 17 -/
def text_Less.f (a0 : ByteArray) (a1 : ByteArray) : Option (Bool) := some (Op.bytesLess a0.toList a1.toList)
set_option maxHeartbeats 8000000 in
set_option maxRecDepth 100000 in
theorem text_Less.calls (a0 : ByteArray) (a1 : ByteArray) (r : Bool) (w : World) (h : text_Less.f a0 a1 = some r) :
    Calls Try.prog 17 #[.string a0, .string a1] w fun e w' => e = .returned (.bool r) ∧ Drawn0 w w' := by
  have H : (some (Op.bytesLess a0.toList a1.toList)) = some r := h
  clear h
  obtain rfl := Option.some.inj H
  go_enter Try.func17, Try.ntmps17
  go_wp2
  go_ret
  exact ⟨by first | rfl | (simp; done) | (simp [*]; done), by repeat (first | exact Drawn0.refl _ | apply Drawn0.step)⟩

/-! ### minstrellaw15_TextOrders: function 6 -/
def minstrellaw15_TextOrders.j0 : Nat → ByteArray → ByteArray → ByteArray → Bool → Bool → Option (Bool)
  | 0, _, _, _, _, _ => none
  | k + 1, x0, x1, x2, x7, x28 => if x28 = true then (some false) else (if x7 = true then ((text_Less.f x1 x2).bind fun t103 => (if t103 = true then ((text_Less.f x0 x2).bind fun t104 => (if t104 = true then ((text_Reverse.f x0).bind fun t105 => ((text_Reverse.f t105).bind fun t106 => (if t106.toList = x0.toList then ((minstrellaw15_lives.f).bind fun t107 => (some t107)) else (some false)))) else (some false))) else ((text_Reverse.f x0).bind fun t108 => ((text_Reverse.f t108).bind fun t109 => (if t109.toList = x0.toList then ((minstrellaw15_lives.f).bind fun t110 => (some t110)) else (some false)))))) else ((text_Reverse.f x0).bind fun t111 => ((text_Reverse.f t111).bind fun t112 => (if t112.toList = x0.toList then ((minstrellaw15_lives.f).bind fun t113 => (some t113)) else (some false)))))
def minstrellaw15_TextOrders.f (k : Nat) (a0 : ByteArray) (a1 : ByteArray) (a2 : ByteArray) : Option (Bool) := (text_Less.f a0 a1).bind fun t101 => ((text_Less.f a1 a0).bind fun t102 => (if t101 = true then (if t102 = true then (minstrellaw15_TextOrders.j0 k a0 a1 a2 t101 true) else (minstrellaw15_TextOrders.j0 k a0 a1 a2 t101 (true != (a0.toList != a1.toList)))) else (minstrellaw15_TextOrders.j0 k a0 a1 a2 t101 (t102 != (a0.toList != a1.toList)))))
theorem minstrellaw15_TextOrders.mono_l : ∀ k, (∀ y0 y1 y2 y3 y4, LeO (minstrellaw15_TextOrders.j0 k y0 y1 y2 y3 y4) (minstrellaw15_TextOrders.j0 (k + 1) y0 y1 y2 y3 y4))
  | 0 => fun _ _ _ _ _ r h => by simp [minstrellaw15_TextOrders.j0] at h
  | k + 1 => by
    have ih0 := minstrellaw15_TextOrders.mono_l k
    · intro y0 y1 y2 y3 y4
      unfold minstrellaw15_TextOrders.j0
      repeat' first
      | (with_reducible exact ih0 _ _ _ _ _)
      | (with_reducible exact LeO.refl _)
      | (with_reducible exact LeO.none _)
      | (with_reducible refine LeO.ite ?_ ?_)
      | (with_reducible refine LeO.bind ?_ (fun _ => ?_))
      | exact ih0 _ _ _ _ _
      | exact LeO.none _
      | refine LeO.ite ?_ ?_
      | refine LeO.bind ?_ (fun _ => ?_)
theorem minstrellaw15_TextOrders.mono : ∀ a0 a1 a2 k, LeO (minstrellaw15_TextOrders.f k a0 a1 a2) (minstrellaw15_TextOrders.f (k + 1) a0 a1 a2) := by
  intro a0 a1 a2 k
  have ih0 := minstrellaw15_TextOrders.mono_l k
  unfold minstrellaw15_TextOrders.f
  repeat' first
      | (with_reducible exact ih0 _ _ _ _ _)
      | (with_reducible exact LeO.refl _)
      | (with_reducible exact LeO.none _)
      | (with_reducible refine LeO.ite ?_ ?_)
      | (with_reducible refine LeO.bind ?_ (fun _ => ?_))
      | exact ih0 _ _ _ _ _
      | exact LeO.none _
      | refine LeO.ite ?_ ?_
      | refine LeO.bind ?_ (fun _ => ?_)
set_option maxHeartbeats 8000000 in
set_option maxRecDepth 100000 in
theorem minstrellaw15_TextOrders.calls (k : Nat) (a0 : ByteArray) (a1 : ByteArray) (a2 : ByteArray) (r : Bool) (w : World) (hG : MaxLaid w) (h : minstrellaw15_TextOrders.f k a0 a1 a2 = some r) :
    Calls Try.prog 6 #[.string a0, .string a1, .string a2] w fun e w' => e = .returned (.bool r) ∧ Below w.heap.size w w' := by
  have HG := Aside0.mk hG
  clear hG
  have HB := Aside0.mk (Below.refl w.heap.size w)
  have H : ((text_Less.f a0 a1).bind fun t101 => ((text_Less.f a1 a0).bind fun t102 => (if t101 = true then (if t102 = true then (minstrellaw15_TextOrders.j0 k a0 a1 a2 t101 true) else (minstrellaw15_TextOrders.j0 k a0 a1 a2 t101 (true != (a0.toList != a1.toList)))) else (minstrellaw15_TextOrders.j0 k a0 a1 a2 t101 (t102 != (a0.toList != a1.toList)))))) = some r := h
  clear h
  replace H := Option.bind_eq_some_iff.mp H
  obtain ⟨t101, A40, H⟩ := H
  replace H : ((text_Less.f a1 a0).bind fun t102 => (if t101 = true then (if t102 = true then (minstrellaw15_TextOrders.j0 k a0 a1 a2 t101 true) else (minstrellaw15_TextOrders.j0 k a0 a1 a2 t101 (true != (a0.toList != a1.toList)))) else (minstrellaw15_TextOrders.j0 k a0 a1 a2 t101 (t102 != (a0.toList != a1.toList))))) = some r := H
  have A4 := Aside0.mk A40
  clear A40
  replace H := Option.bind_eq_some_iff.mp H
  obtain ⟨t102, A50, H⟩ := H
  replace H : (if t101 = true then (if t102 = true then (minstrellaw15_TextOrders.j0 k a0 a1 a2 t101 true) else (minstrellaw15_TextOrders.j0 k a0 a1 a2 t101 (true != (a0.toList != a1.toList)))) else (minstrellaw15_TextOrders.j0 k a0 a1 a2 t101 (t102 != (a0.toList != a1.toList)))) = some r := H
  have A5 := Aside0.mk A50
  clear A50
  have HC6 := Aside0.mk H
  clear H
  go_enter Try.func6, Try.ntmps6
  go_upto_region 2 with (first | ((with_reducible refine gate_callee (f := 17) rfl ?_); refine goesL_ (some 11) rfl rfl Try.func17 (by kernel_rfl) rfl #[.string a0, .string a1] rfl (by (try simp only [List.map_toArray, List.map_cons, List.map_nil]); first | done | rfl | (simp only [List.length_drop, List.length_take]; rfl)) ?_; (with_reducible refine (text_Less.calls a0 a1 t101 _ A4.out).mono ?_); rintro e w' ⟨rfl, ⟨nd, rfl⟩⟩; refine ⟨_, rfl, ?_⟩) | ((with_reducible refine gate_callee (f := 17) rfl ?_); refine goesL_ (some 14) rfl rfl Try.func17 (by kernel_rfl) rfl #[.string a1, .string a0] rfl (by (try simp only [List.map_toArray, List.map_cons, List.map_nil]); first | done | rfl | (simp only [List.length_drop, List.length_take]; rfl)) ?_; (with_reducible refine (text_Less.calls a1 a0 t102 _ A5.out).mono ?_); rintro e w' ⟨rfl, ⟨nd, rfl⟩⟩; refine ⟨_, rfl, ?_⟩))
  (try simp only [Act.put, List.setIfInBounds_toArray, List.set_cons_zero, List.set_cons_succ])
  go_cut [28] (fun v28 wc => ∃ (kq : Nat) (x28_5 : Bool), v28 = .bool x28_5 ∧ Aside0 (minstrellaw15_TextOrders.j0 kq a0 a1 a2 t101 x28_5 = some r) ∧ Aside0 (kq ≤ k) ∧ Aside0 (Below w.heap.size w wc))
  case first =>
    have H := HC6.out
    clear HC6
    by_cases c7 : t101 = true
    · subst c7
      have H1 : (if t102 = true then (minstrellaw15_TextOrders.j0 k a0 a1 a2 true true) else (minstrellaw15_TextOrders.j0 k a0 a1 a2 true (true != (a0.toList != a1.toList)))) = some r := by rw [if_pos rfl] at H; exact H
      clear H
      have H := H1
      clear H1
      by_cases c8 : t102 = true
      · subst c8
        have H1 : (minstrellaw15_TextOrders.j0 k a0 a1 a2 true true) = some r := by rw [if_pos rfl] at H; exact H
        clear H
        have H := H1
        clear H1
        have H' := Aside0.mk H
        clear H
        go_wp2
        go_meet
        case rel => exact ⟨_, (true), (by first | rfl | (simp; done) | (simp [*]; done)), H', ⟨by first | omega | exact Nat.le_refl _⟩, ⟨by repeat (first | (with_reducible first | exact HB.out | apply below_alloc | apply pw_below_drewN | apply below_drew1) | exact HB.out)⟩⟩
      · replace c8 := Bool.eq_false_iff.mpr c8
        subst c8
        have H1 : (minstrellaw15_TextOrders.j0 k a0 a1 a2 true (true != (a0.toList != a1.toList))) = some r := by rw [if_neg (show ¬ (false = true) by decide)] at H; exact H
        clear H
        have H := H1
        clear H1
        have H' := Aside0.mk H
        clear H
        go_wp2
        go_meet
        case rel => exact ⟨_, ((true != (a0.toList != a1.toList))), (by first | rfl | (simp; done) | (simp [*]; done) | (simp [bne]; done)), H', ⟨by first | omega | exact Nat.le_refl _⟩, ⟨by repeat (first | (with_reducible first | exact HB.out | apply below_alloc | apply pw_below_drewN | apply below_drew1) | exact HB.out)⟩⟩
    · replace c7 := Bool.eq_false_iff.mpr c7
      subst c7
      have H1 : (minstrellaw15_TextOrders.j0 k a0 a1 a2 false (t102 != (a0.toList != a1.toList))) = some r := by rw [if_neg (show ¬ (false = true) by decide)] at H; exact H
      clear H
      have H := H1
      clear H1
      have H' := Aside0.mk H
      clear H
      go_wp2
      go_meet
      case rel => exact ⟨_, ((t102 != (a0.toList != a1.toList))), (by first | rfl | (simp; done) | (simp [*]; done)), H', ⟨by first | omega | exact Nat.le_refl _⟩, ⟨by repeat (first | (with_reducible first | exact HB.out | apply below_alloc | apply pw_below_drewN | apply below_drew1) | exact HB.out)⟩⟩
  case rest =>
    clear HC6
    try clear c1
    try clear p2
    try clear c6
    try clear c7
    try clear c8
    obtain ⟨kq, x28_5, rfl, HA, HJ5, HB⟩ := hcut
    cases kq with
    | zero => exact absurd HA.out (by simp [minstrellaw15_TextOrders.j0])
    | succ kj5 =>
      have H := HA.out
      clear HA
      simp only [minstrellaw15_TextOrders.j0] at H
      by_cases c9 : x28_5 = true
      · subst c9
        have H1 : (some false) = some r := by rw [if_pos rfl] at H; exact H
        clear H
        have H := H1
        clear H1
        obtain rfl := Option.some.inj H
        go_wp2
        go_ret
        exact ⟨by first | rfl | (simp [errW_none, errW_some] <;> rfl) | (simp [*, errW_none, errW_some] <;> rfl), by repeat (first | (with_reducible first | exact HB.out | apply below_alloc | apply pw_below_drewN | apply below_drew1) | exact HB.out)⟩
      · replace c9 := Bool.eq_false_iff.mpr c9
        subst c9
        have H1 : (if t101 = true then ((text_Less.f a1 a2).bind fun t103 => (if t103 = true then ((text_Less.f a0 a2).bind fun t104 => (if t104 = true then ((text_Reverse.f a0).bind fun t105 => ((text_Reverse.f t105).bind fun t106 => (if t106.toList = a0.toList then ((minstrellaw15_lives.f).bind fun t107 => (some t107)) else (some false)))) else (some false))) else ((text_Reverse.f a0).bind fun t108 => ((text_Reverse.f t108).bind fun t109 => (if t109.toList = a0.toList then ((minstrellaw15_lives.f).bind fun t110 => (some t110)) else (some false)))))) else ((text_Reverse.f a0).bind fun t111 => ((text_Reverse.f t111).bind fun t112 => (if t112.toList = a0.toList then ((minstrellaw15_lives.f).bind fun t113 => (some t113)) else (some false))))) = some r := by rw [if_neg (show ¬ (false = true) by decide)] at H; exact H
        clear H
        have H := H1
        clear H1
        by_cases c10 : t101 = true
        · subst c10
          have H1 : ((text_Less.f a1 a2).bind fun t103 => (if t103 = true then ((text_Less.f a0 a2).bind fun t104 => (if t104 = true then ((text_Reverse.f a0).bind fun t105 => ((text_Reverse.f t105).bind fun t106 => (if t106.toList = a0.toList then ((minstrellaw15_lives.f).bind fun t107 => (some t107)) else (some false)))) else (some false))) else ((text_Reverse.f a0).bind fun t108 => ((text_Reverse.f t108).bind fun t109 => (if t109.toList = a0.toList then ((minstrellaw15_lives.f).bind fun t110 => (some t110)) else (some false)))))) = some r := by rw [if_pos rfl] at H; exact H
          clear H
          have H := H1
          clear H1
          replace H := Option.bind_eq_some_iff.mp H
          obtain ⟨t103, A110, H⟩ := H
          replace H : (if t103 = true then ((text_Less.f a0 a2).bind fun t104 => (if t104 = true then ((text_Reverse.f a0).bind fun t105 => ((text_Reverse.f t105).bind fun t106 => (if t106.toList = a0.toList then ((minstrellaw15_lives.f).bind fun t107 => (some t107)) else (some false)))) else (some false))) else ((text_Reverse.f a0).bind fun t108 => ((text_Reverse.f t108).bind fun t109 => (if t109.toList = a0.toList then ((minstrellaw15_lives.f).bind fun t110 => (some t110)) else (some false))))) = some r := H
          have A11 := Aside0.mk A110
          clear A110
          by_cases c12 : t103 = true
          · subst c12
            have H1 : ((text_Less.f a0 a2).bind fun t104 => (if t104 = true then ((text_Reverse.f a0).bind fun t105 => ((text_Reverse.f t105).bind fun t106 => (if t106.toList = a0.toList then ((minstrellaw15_lives.f).bind fun t107 => (some t107)) else (some false)))) else (some false))) = some r := by rw [if_pos rfl] at H; exact H
            clear H
            have H := H1
            clear H1
            replace H := Option.bind_eq_some_iff.mp H
            obtain ⟨t104, A130, H⟩ := H
            replace H : (if t104 = true then ((text_Reverse.f a0).bind fun t105 => ((text_Reverse.f t105).bind fun t106 => (if t106.toList = a0.toList then ((minstrellaw15_lives.f).bind fun t107 => (some t107)) else (some false)))) else (some false)) = some r := H
            have A13 := Aside0.mk A130
            clear A130
            by_cases c14 : t104 = true
            · subst c14
              have H1 : ((text_Reverse.f a0).bind fun t105 => ((text_Reverse.f t105).bind fun t106 => (if t106.toList = a0.toList then ((minstrellaw15_lives.f).bind fun t107 => (some t107)) else (some false)))) = some r := by rw [if_pos rfl] at H; exact H
              clear H
              have H := H1
              clear H1
              replace H := Option.bind_eq_some_iff.mp H
              obtain ⟨t105, A150, H⟩ := H
              replace H : ((text_Reverse.f t105).bind fun t106 => (if t106.toList = a0.toList then ((minstrellaw15_lives.f).bind fun t107 => (some t107)) else (some false))) = some r := H
              have A15 := Aside0.mk A150
              clear A150
              replace H := Option.bind_eq_some_iff.mp H
              obtain ⟨t106, A160, H⟩ := H
              replace H : (if t106.toList = a0.toList then ((minstrellaw15_lives.f).bind fun t107 => (some t107)) else (some false)) = some r := H
              have A16 := Aside0.mk A160
              clear A160
              by_cases c17 : t106.toList = a0.toList
              · rw [if_pos c17] at H
                have c17b0 : (t106.toList == a0.toList) = true := beq_iff_eq.mpr c17
                have c17b1 : (t106.toList != a0.toList) = false := bne_eq_false_iff_eq.mpr c17
                clear c17
                replace H := Option.bind_eq_some_iff.mp H
                obtain ⟨t107, A180, H⟩ := H
                replace H : (some t107) = some r := H
                have A18 := Aside0.mk A180
                clear A180
                obtain rfl := Option.some.inj H
                go_wp2_with (first | (go_at_call 17; (with_reducible refine (text_Less.calls a1 a2 true _ A11.out).mono ?_); rintro e w' ⟨rfl, ⟨nd, rfl⟩⟩) | (go_at_call 17; (with_reducible refine (text_Less.calls a0 a2 true _ A13.out).mono ?_); rintro e w' ⟨rfl, ⟨nd, rfl⟩⟩) | (go_at_call 18; (with_reducible refine (text_Reverse.calls a0 t105 _ A15.out).mono ?_); rintro e w19 ⟨rfl, hb⟩; have n0_ := Aside0.mk (below_step (by repeat (first | (with_reducible first | exact HB.out | apply below_alloc | apply pw_below_drewN | apply below_drew1) | exact HB.out)) hb); clear HB; have HB := n0_; clear n0_; (try clear hb); (try clear hb2); (try clear hk); (try clear hi)) | (go_at_call 18; (with_reducible refine (text_Reverse.calls t105 t106 _ A16.out).mono ?_); rintro e w20 ⟨rfl, hb⟩; have n0_ := Aside0.mk (below_step (by repeat (first | (with_reducible first | exact HB.out | apply below_alloc | apply pw_below_drewN | apply below_drew1) | exact HB.out)) hb); clear HB; have HB := n0_; clear n0_; (try clear hb); (try clear hb2); (try clear hk); (try clear hi)) | (go_at_call 9; (with_reducible refine (minstrellaw15_lives.calls  t107 _ ?side1 A18.out).mono ?_); (case side1 => first | exact HG.out | exact globDrewN HG.out _ | exact globBelow HG.out (by repeat (first | (with_reducible first | exact HB.out | apply below_alloc | apply pw_below_drewN | apply below_drew1) | exact HB.out)) | (repeat (first | exact HG.out | apply globDrewN | apply globDrew))); rintro e w21 ⟨rfl, hb⟩; have n0_ := Aside0.mk (below_step (by repeat (first | (with_reducible first | exact HB.out | apply below_alloc | apply pw_below_drewN | apply below_drew1) | exact HB.out)) hb); clear HB; have HB := n0_; clear n0_; (try clear hb); (try clear hb2); (try clear hk); (try clear hi)))
                go_ret
                exact ⟨by first | rfl | (simp [errW_none, errW_some] <;> rfl) | (simp [*, errW_none, errW_some] <;> rfl), by repeat (first | (with_reducible first | exact HB.out | apply below_alloc | apply pw_below_drewN | apply below_drew1) | exact HB.out)⟩
              · rw [if_neg c17] at H
                have c17b0 : (t106.toList == a0.toList) = false := beq_eq_false_iff_ne.mpr c17
                have c17b1 : (t106.toList != a0.toList) = true := bne_iff_ne.mpr c17
                obtain rfl := Option.some.inj H
                go_wp2_with (first | (go_at_call 17; (with_reducible refine (text_Less.calls a1 a2 true _ A11.out).mono ?_); rintro e w' ⟨rfl, ⟨nd, rfl⟩⟩) | (go_at_call 17; (with_reducible refine (text_Less.calls a0 a2 true _ A13.out).mono ?_); rintro e w' ⟨rfl, ⟨nd, rfl⟩⟩) | (go_at_call 18; (with_reducible refine (text_Reverse.calls a0 t105 _ A15.out).mono ?_); rintro e w22 ⟨rfl, hb⟩; have n0_ := Aside0.mk (below_step (by repeat (first | (with_reducible first | exact HB.out | apply below_alloc | apply pw_below_drewN | apply below_drew1) | exact HB.out)) hb); clear HB; have HB := n0_; clear n0_; (try clear hb); (try clear hb2); (try clear hk); (try clear hi)) | (go_at_call 18; (with_reducible refine (text_Reverse.calls t105 t106 _ A16.out).mono ?_); rintro e w23 ⟨rfl, hb⟩; have n0_ := Aside0.mk (below_step (by repeat (first | (with_reducible first | exact HB.out | apply below_alloc | apply pw_below_drewN | apply below_drew1) | exact HB.out)) hb); clear HB; have HB := n0_; clear n0_; (try clear hb); (try clear hb2); (try clear hk); (try clear hi)))
                go_ret
                exact ⟨by first | rfl | (simp [errW_none, errW_some] <;> rfl) | (simp [*, errW_none, errW_some] <;> rfl), by repeat (first | (with_reducible first | exact HB.out | apply below_alloc | apply pw_below_drewN | apply below_drew1) | exact HB.out)⟩
            · replace c14 := Bool.eq_false_iff.mpr c14
              subst c14
              have H1 : (some false) = some r := by rw [if_neg (show ¬ (false = true) by decide)] at H; exact H
              clear H
              have H := H1
              clear H1
              obtain rfl := Option.some.inj H
              go_wp2_with (first | (go_at_call 17; (with_reducible refine (text_Less.calls a1 a2 true _ A11.out).mono ?_); rintro e w' ⟨rfl, ⟨nd, rfl⟩⟩) | (go_at_call 17; (with_reducible refine (text_Less.calls a0 a2 false _ A13.out).mono ?_); rintro e w' ⟨rfl, ⟨nd, rfl⟩⟩))
              go_ret
              exact ⟨by first | rfl | (simp [errW_none, errW_some] <;> rfl) | (simp [*, errW_none, errW_some] <;> rfl), by repeat (first | (with_reducible first | exact HB.out | apply below_alloc | apply pw_below_drewN | apply below_drew1) | exact HB.out)⟩
          · replace c12 := Bool.eq_false_iff.mpr c12
            subst c12
            have H1 : ((text_Reverse.f a0).bind fun t108 => ((text_Reverse.f t108).bind fun t109 => (if t109.toList = a0.toList then ((minstrellaw15_lives.f).bind fun t110 => (some t110)) else (some false)))) = some r := by rw [if_neg (show ¬ (false = true) by decide)] at H; exact H
            clear H
            have H := H1
            clear H1
            replace H := Option.bind_eq_some_iff.mp H
            obtain ⟨t108, A240, H⟩ := H
            replace H : ((text_Reverse.f t108).bind fun t109 => (if t109.toList = a0.toList then ((minstrellaw15_lives.f).bind fun t110 => (some t110)) else (some false))) = some r := H
            have A24 := Aside0.mk A240
            clear A240
            replace H := Option.bind_eq_some_iff.mp H
            obtain ⟨t109, A250, H⟩ := H
            replace H : (if t109.toList = a0.toList then ((minstrellaw15_lives.f).bind fun t110 => (some t110)) else (some false)) = some r := H
            have A25 := Aside0.mk A250
            clear A250
            by_cases c26 : t109.toList = a0.toList
            · rw [if_pos c26] at H
              have c26b0 : (t109.toList == a0.toList) = true := beq_iff_eq.mpr c26
              have c26b1 : (t109.toList != a0.toList) = false := bne_eq_false_iff_eq.mpr c26
              clear c26
              replace H := Option.bind_eq_some_iff.mp H
              obtain ⟨t110, A270, H⟩ := H
              replace H : (some t110) = some r := H
              have A27 := Aside0.mk A270
              clear A270
              obtain rfl := Option.some.inj H
              go_wp2_with (first | (go_at_call 17; (with_reducible refine (text_Less.calls a1 a2 false _ A11.out).mono ?_); rintro e w' ⟨rfl, ⟨nd, rfl⟩⟩) | (go_at_call 18; (with_reducible refine (text_Reverse.calls a0 t108 _ A24.out).mono ?_); rintro e w28 ⟨rfl, hb⟩; have n0_ := Aside0.mk (below_step (by repeat (first | (with_reducible first | exact HB.out | apply below_alloc | apply pw_below_drewN | apply below_drew1) | exact HB.out)) hb); clear HB; have HB := n0_; clear n0_; (try clear hb); (try clear hb2); (try clear hk); (try clear hi)) | (go_at_call 18; (with_reducible refine (text_Reverse.calls t108 t109 _ A25.out).mono ?_); rintro e w29 ⟨rfl, hb⟩; have n0_ := Aside0.mk (below_step (by repeat (first | (with_reducible first | exact HB.out | apply below_alloc | apply pw_below_drewN | apply below_drew1) | exact HB.out)) hb); clear HB; have HB := n0_; clear n0_; (try clear hb); (try clear hb2); (try clear hk); (try clear hi)) | (go_at_call 9; (with_reducible refine (minstrellaw15_lives.calls  t110 _ ?side1 A27.out).mono ?_); (case side1 => first | exact HG.out | exact globDrewN HG.out _ | exact globBelow HG.out (by repeat (first | (with_reducible first | exact HB.out | apply below_alloc | apply pw_below_drewN | apply below_drew1) | exact HB.out)) | (repeat (first | exact HG.out | apply globDrewN | apply globDrew))); rintro e w30 ⟨rfl, hb⟩; have n0_ := Aside0.mk (below_step (by repeat (first | (with_reducible first | exact HB.out | apply below_alloc | apply pw_below_drewN | apply below_drew1) | exact HB.out)) hb); clear HB; have HB := n0_; clear n0_; (try clear hb); (try clear hb2); (try clear hk); (try clear hi)))
              go_ret
              exact ⟨by first | rfl | (simp [errW_none, errW_some] <;> rfl) | (simp [*, errW_none, errW_some] <;> rfl), by repeat (first | (with_reducible first | exact HB.out | apply below_alloc | apply pw_below_drewN | apply below_drew1) | exact HB.out)⟩
            · rw [if_neg c26] at H
              have c26b0 : (t109.toList == a0.toList) = false := beq_eq_false_iff_ne.mpr c26
              have c26b1 : (t109.toList != a0.toList) = true := bne_iff_ne.mpr c26
              obtain rfl := Option.some.inj H
              go_wp2_with (first | (go_at_call 17; (with_reducible refine (text_Less.calls a1 a2 false _ A11.out).mono ?_); rintro e w' ⟨rfl, ⟨nd, rfl⟩⟩) | (go_at_call 18; (with_reducible refine (text_Reverse.calls a0 t108 _ A24.out).mono ?_); rintro e w31 ⟨rfl, hb⟩; have n0_ := Aside0.mk (below_step (by repeat (first | (with_reducible first | exact HB.out | apply below_alloc | apply pw_below_drewN | apply below_drew1) | exact HB.out)) hb); clear HB; have HB := n0_; clear n0_; (try clear hb); (try clear hb2); (try clear hk); (try clear hi)) | (go_at_call 18; (with_reducible refine (text_Reverse.calls t108 t109 _ A25.out).mono ?_); rintro e w32 ⟨rfl, hb⟩; have n0_ := Aside0.mk (below_step (by repeat (first | (with_reducible first | exact HB.out | apply below_alloc | apply pw_below_drewN | apply below_drew1) | exact HB.out)) hb); clear HB; have HB := n0_; clear n0_; (try clear hb); (try clear hb2); (try clear hk); (try clear hi)))
              go_ret
              exact ⟨by first | rfl | (simp [errW_none, errW_some] <;> rfl) | (simp [*, errW_none, errW_some] <;> rfl), by repeat (first | (with_reducible first | exact HB.out | apply below_alloc | apply pw_below_drewN | apply below_drew1) | exact HB.out)⟩
        · replace c10 := Bool.eq_false_iff.mpr c10
          subst c10
          have H1 : ((text_Reverse.f a0).bind fun t111 => ((text_Reverse.f t111).bind fun t112 => (if t112.toList = a0.toList then ((minstrellaw15_lives.f).bind fun t113 => (some t113)) else (some false)))) = some r := by rw [if_neg (show ¬ (false = true) by decide)] at H; exact H
          clear H
          have H := H1
          clear H1
          replace H := Option.bind_eq_some_iff.mp H
          obtain ⟨t111, A330, H⟩ := H
          replace H : ((text_Reverse.f t111).bind fun t112 => (if t112.toList = a0.toList then ((minstrellaw15_lives.f).bind fun t113 => (some t113)) else (some false))) = some r := H
          have A33 := Aside0.mk A330
          clear A330
          replace H := Option.bind_eq_some_iff.mp H
          obtain ⟨t112, A340, H⟩ := H
          replace H : (if t112.toList = a0.toList then ((minstrellaw15_lives.f).bind fun t113 => (some t113)) else (some false)) = some r := H
          have A34 := Aside0.mk A340
          clear A340
          by_cases c35 : t112.toList = a0.toList
          · rw [if_pos c35] at H
            have c35b0 : (t112.toList == a0.toList) = true := beq_iff_eq.mpr c35
            have c35b1 : (t112.toList != a0.toList) = false := bne_eq_false_iff_eq.mpr c35
            clear c35
            replace H := Option.bind_eq_some_iff.mp H
            obtain ⟨t113, A360, H⟩ := H
            replace H : (some t113) = some r := H
            have A36 := Aside0.mk A360
            clear A360
            obtain rfl := Option.some.inj H
            go_wp2_with (first | (go_at_call 18; (with_reducible refine (text_Reverse.calls a0 t111 _ A33.out).mono ?_); rintro e w37 ⟨rfl, hb⟩; have n0_ := Aside0.mk (below_step (by repeat (first | (with_reducible first | exact HB.out | apply below_alloc | apply pw_below_drewN | apply below_drew1) | exact HB.out)) hb); clear HB; have HB := n0_; clear n0_; (try clear hb); (try clear hb2); (try clear hk); (try clear hi)) | (go_at_call 18; (with_reducible refine (text_Reverse.calls t111 t112 _ A34.out).mono ?_); rintro e w38 ⟨rfl, hb⟩; have n0_ := Aside0.mk (below_step (by repeat (first | (with_reducible first | exact HB.out | apply below_alloc | apply pw_below_drewN | apply below_drew1) | exact HB.out)) hb); clear HB; have HB := n0_; clear n0_; (try clear hb); (try clear hb2); (try clear hk); (try clear hi)) | (go_at_call 9; (with_reducible refine (minstrellaw15_lives.calls  t113 _ ?side1 A36.out).mono ?_); (case side1 => first | exact HG.out | exact globDrewN HG.out _ | exact globBelow HG.out (by repeat (first | (with_reducible first | exact HB.out | apply below_alloc | apply pw_below_drewN | apply below_drew1) | exact HB.out)) | (repeat (first | exact HG.out | apply globDrewN | apply globDrew))); rintro e w39 ⟨rfl, hb⟩; have n0_ := Aside0.mk (below_step (by repeat (first | (with_reducible first | exact HB.out | apply below_alloc | apply pw_below_drewN | apply below_drew1) | exact HB.out)) hb); clear HB; have HB := n0_; clear n0_; (try clear hb); (try clear hb2); (try clear hk); (try clear hi)))
            go_ret
            exact ⟨by first | rfl | (simp [errW_none, errW_some] <;> rfl) | (simp [*, errW_none, errW_some] <;> rfl), by repeat (first | (with_reducible first | exact HB.out | apply below_alloc | apply pw_below_drewN | apply below_drew1) | exact HB.out)⟩
          · rw [if_neg c35] at H
            have c35b0 : (t112.toList == a0.toList) = false := beq_eq_false_iff_ne.mpr c35
            have c35b1 : (t112.toList != a0.toList) = true := bne_iff_ne.mpr c35
            obtain rfl := Option.some.inj H
            go_wp2_with (first | (go_at_call 18; (with_reducible refine (text_Reverse.calls a0 t111 _ A33.out).mono ?_); rintro e w40 ⟨rfl, hb⟩; have n0_ := Aside0.mk (below_step (by repeat (first | (with_reducible first | exact HB.out | apply below_alloc | apply pw_below_drewN | apply below_drew1) | exact HB.out)) hb); clear HB; have HB := n0_; clear n0_; (try clear hb); (try clear hb2); (try clear hk); (try clear hi)) | (go_at_call 18; (with_reducible refine (text_Reverse.calls t111 t112 _ A34.out).mono ?_); rintro e w41 ⟨rfl, hb⟩; have n0_ := Aside0.mk (below_step (by repeat (first | (with_reducible first | exact HB.out | apply below_alloc | apply pw_below_drewN | apply below_drew1) | exact HB.out)) hb); clear HB; have HB := n0_; clear n0_; (try clear hb); (try clear hb2); (try clear hk); (try clear hi)))
            go_ret
            exact ⟨by first | rfl | (simp [errW_none, errW_some] <;> rfl) | (simp [*, errW_none, errW_some] <;> rfl), by repeat (first | (with_reducible first | exact HB.out | apply below_alloc | apply pw_below_drewN | apply below_drew1) | exact HB.out)⟩

/-- THE ONE PURE STATEMENT of minstrellaw15_TextOrders: yours. -/
def minstrellaw15_TextOrders.Pure : Prop := ∀ (a0 : ByteArray) (a1 : ByteArray) (a2 : ByteArray), a0.size ≤ 140737488351232 → a1.size ≤ 140737488351232 → a2.size ≤ 140737488351232 → ∃ k, minstrellaw15_TextOrders.f k a0 a1 a2 = some true
theorem minstrellaw15_TextOrders.walk (P : minstrellaw15_TextOrders.Pure) (a0 : ByteArray) (a1 : ByteArray) (a2 : ByteArray) (w : World) (w0 : a0.size ≤ 140737488351232) (w1 : a1.size ≤ 140737488351232) (w2 : a2.size ≤ 140737488351232) (hG : MaxLaid w) :
    Calls Try.prog 6 #[.string a0, .string a1, .string a2] w fun e w' => e = .returned (.bool true) ∧ Below w.heap.size w w' := by
  obtain ⟨k, h⟩ := P a0 a1 a2 w0 w1 w2
  refine (minstrellaw15_TextOrders.calls k a0 a1 a2 true w hG h).mono ?_
  rintro e w' ⟨rfl, hd⟩
  exact ⟨rfl, hd⟩

end Go.Proofs.Ythjbdkgbibidkaa.Pt
