-- Written by a program of this claim's session, out of the translation.
import Derived.Test.YthjbdkgbibidkaaPu0
import Derived.Test.YthjbdkgbibidkaaPu1
import Derived.Test.YthjbdkgbibidkaaPr2
import Derived.Test.YthjbdkgbibidkaaUpper
import Derived.Test.YthjbdkgbibidkaaPs1
namespace Go.Proofs.Ythjbdkgbibidkaa.Pu
open Go.RowKit Go.Proofs.YthjbdkgbibidkaaW.PrintWords Go.Proofs.YthjbdkgbibidkaaW.PrintLast Go.Proofs.YthjbdkgbibidkaaW.PrintMore Go.Proofs.Ythjbdkgbibidkaa.Ps Go.Proofs.Ythjbdkgbibidkaa.Pr
attribute [local go_sem] max2_int min2_int max_two min_two max_three min_three max_four min_four   -- for this text's walks alone
set_option linter.unusedVariables false
set_option linter.unusedSimpArgs false

/-! ### minstrellaw15_TextMakes: function 8 -/
def minstrellaw15_TextMakes.j0 : Nat → ByteArray → Int → Bool → Option (Bool)
  | 0, _, _, _ => none
  | k + 1, x0, x2, x81 => if x81 = true then (some false) else ((text_Rep.f k x0 x2).bind fun bt145 => ((minstrelref15_Rep.f k x0 x2).bind fun bt147 => (if bt145.1.toList = bt147.1.toList then (if bt145.2 = bt147.2 then ((minstrellaw15_lives.f).bind fun t149 => (some t149)) else (some false)) else (some false))))
def minstrellaw15_TextMakes.f (k : Nat) (a0 : ByteArray) (a1 : ByteArray) (a2 : Int) : Option (Bool) := (text_Join.f a0 a1).bind fun bt131 => ((minstrelref15_Join.f a0 a1).bind fun bt133 => ((text_Char.f a2).bind fun bt135 => ((minstrelref15_Char.f a2).bind fun bt137 => (if bt131.1.toList = bt133.1.toList then (if bt131.2 = bt133.2 then (if bt135.1.toList = bt137.1.toList then (if bt135.2 = bt137.2 then ((text_Upper.f a0).bind fun t139 => ((minstrelref15_Upper.f k a0).bind fun t140 => (if t139.toList = t140.toList then ((text_Reverse.f a0).bind fun t141 => ((minstrelref15_Reverse.f k a0).bind fun t142 => (if t141.toList = t142.toList then ((text_Less.f a0 a1).bind fun t143 => ((minstrelref15_Less.f k a0 a1).bind fun t144 => (minstrellaw15_TextMakes.j0 k a0 a2 (t143 != t144)))) else (minstrellaw15_TextMakes.j0 k a0 a2 true)))) else (minstrellaw15_TextMakes.j0 k a0 a2 true)))) else (minstrellaw15_TextMakes.j0 k a0 a2 true)) else (minstrellaw15_TextMakes.j0 k a0 a2 true)) else (minstrellaw15_TextMakes.j0 k a0 a2 true)) else (minstrellaw15_TextMakes.j0 k a0 a2 true)))))
theorem minstrellaw15_TextMakes.mono_l : ∀ k, (∀ y0 y1 y2, LeO (minstrellaw15_TextMakes.j0 k y0 y1 y2) (minstrellaw15_TextMakes.j0 (k + 1) y0 y1 y2))
  | 0 => fun _ _ _ r h => by simp [minstrellaw15_TextMakes.j0] at h
  | k + 1 => by
    have ih0 := minstrellaw15_TextMakes.mono_l k
    · intro y0 y1 y2
      unfold minstrellaw15_TextMakes.j0
      repeat' first
      | (with_reducible exact ih0 _ _ _)
      | (with_reducible exact minstrelref15_Less.mono _ _ _)
      | (with_reducible exact minstrelref15_Rep.mono _ _ _)
      | (with_reducible exact minstrelref15_Reverse.mono _ _)
      | (with_reducible exact minstrelref15_Upper.mono _ _)
      | (with_reducible exact text_Rep.mono _ _ _)
      | (with_reducible exact LeO.refl _)
      | (with_reducible exact LeO.none _)
      | (with_reducible refine LeO.ite ?_ ?_)
      | (with_reducible refine LeO.bind ?_ (fun _ => ?_))
      | exact ih0 _ _ _
      | exact minstrelref15_Less.mono _ _ _
      | exact minstrelref15_Rep.mono _ _ _
      | exact minstrelref15_Reverse.mono _ _
      | exact minstrelref15_Upper.mono _ _
      | exact text_Rep.mono _ _ _
      | exact LeO.none _
      | refine LeO.ite ?_ ?_
      | refine LeO.bind ?_ (fun _ => ?_)
theorem minstrellaw15_TextMakes.mono : ∀ a0 a1 a2 k, LeO (minstrellaw15_TextMakes.f k a0 a1 a2) (minstrellaw15_TextMakes.f (k + 1) a0 a1 a2) := by
  intro a0 a1 a2 k
  have ih0 := minstrellaw15_TextMakes.mono_l k
  unfold minstrellaw15_TextMakes.f
  repeat' first
      | (with_reducible exact ih0 _ _ _)
      | (with_reducible exact minstrelref15_Less.mono _ _ _)
      | (with_reducible exact minstrelref15_Rep.mono _ _ _)
      | (with_reducible exact minstrelref15_Reverse.mono _ _)
      | (with_reducible exact minstrelref15_Upper.mono _ _)
      | (with_reducible exact text_Rep.mono _ _ _)
      | (with_reducible exact LeO.refl _)
      | (with_reducible exact LeO.none _)
      | (with_reducible refine LeO.ite ?_ ?_)
      | (with_reducible refine LeO.bind ?_ (fun _ => ?_))
      | exact ih0 _ _ _
      | exact minstrelref15_Less.mono _ _ _
      | exact minstrelref15_Rep.mono _ _ _
      | exact minstrelref15_Reverse.mono _ _
      | exact minstrelref15_Upper.mono _ _
      | exact text_Rep.mono _ _ _
      | exact LeO.none _
      | refine LeO.ite ?_ ?_
      | refine LeO.bind ?_ (fun _ => ?_)
set_option maxHeartbeats 8000000 in
set_option maxRecDepth 100000 in
theorem minstrellaw15_TextMakes.calls (k : Nat) (a0 : ByteArray) (a1 : ByteArray) (a2 : Int) (r : Bool) (w : World) (hG : MaxLaid w) (h : minstrellaw15_TextMakes.f k a0 a1 a2 = some r) :
    Calls Try.prog 8 #[.string a0, .string a1, .int .i64 a2] w fun e w' => e = .returned (.bool r) ∧ Below w.heap.size w w' := by
  have HG := Aside0.mk hG
  clear hG
  have HB := Aside0.mk (Below.refl w.heap.size w)
  have H : ((text_Join.f a0 a1).bind fun bt131 => ((minstrelref15_Join.f a0 a1).bind fun bt133 => ((text_Char.f a2).bind fun bt135 => ((minstrelref15_Char.f a2).bind fun bt137 => (if bt131.1.toList = bt133.1.toList then (if bt131.2 = bt133.2 then (if bt135.1.toList = bt137.1.toList then (if bt135.2 = bt137.2 then ((text_Upper.f a0).bind fun t139 => ((minstrelref15_Upper.f k a0).bind fun t140 => (if t139.toList = t140.toList then ((text_Reverse.f a0).bind fun t141 => ((minstrelref15_Reverse.f k a0).bind fun t142 => (if t141.toList = t142.toList then ((text_Less.f a0 a1).bind fun t143 => ((minstrelref15_Less.f k a0 a1).bind fun t144 => (minstrellaw15_TextMakes.j0 k a0 a2 (t143 != t144)))) else (minstrellaw15_TextMakes.j0 k a0 a2 true)))) else (minstrellaw15_TextMakes.j0 k a0 a2 true)))) else (minstrellaw15_TextMakes.j0 k a0 a2 true)) else (minstrellaw15_TextMakes.j0 k a0 a2 true)) else (minstrellaw15_TextMakes.j0 k a0 a2 true)) else (minstrellaw15_TextMakes.j0 k a0 a2 true)))))) = some r := h
  clear h
  replace H := Option.bind_eq_some_iff.mp H
  obtain ⟨⟨t131, t132⟩, A40, H⟩ := H
  replace H : ((minstrelref15_Join.f a0 a1).bind fun bt133 => ((text_Char.f a2).bind fun bt135 => ((minstrelref15_Char.f a2).bind fun bt137 => (if t131.toList = bt133.1.toList then (if t132 = bt133.2 then (if bt135.1.toList = bt137.1.toList then (if bt135.2 = bt137.2 then ((text_Upper.f a0).bind fun t139 => ((minstrelref15_Upper.f k a0).bind fun t140 => (if t139.toList = t140.toList then ((text_Reverse.f a0).bind fun t141 => ((minstrelref15_Reverse.f k a0).bind fun t142 => (if t141.toList = t142.toList then ((text_Less.f a0 a1).bind fun t143 => ((minstrelref15_Less.f k a0 a1).bind fun t144 => (minstrellaw15_TextMakes.j0 k a0 a2 (t143 != t144)))) else (minstrellaw15_TextMakes.j0 k a0 a2 true)))) else (minstrellaw15_TextMakes.j0 k a0 a2 true)))) else (minstrellaw15_TextMakes.j0 k a0 a2 true)) else (minstrellaw15_TextMakes.j0 k a0 a2 true)) else (minstrellaw15_TextMakes.j0 k a0 a2 true)) else (minstrellaw15_TextMakes.j0 k a0 a2 true))))) = some r := H
  have A4 := Aside0.mk A40
  clear A40
  replace H := Option.bind_eq_some_iff.mp H
  obtain ⟨⟨t133, t134⟩, A50, H⟩ := H
  replace H : ((text_Char.f a2).bind fun bt135 => ((minstrelref15_Char.f a2).bind fun bt137 => (if t131.toList = t133.toList then (if t132 = t134 then (if bt135.1.toList = bt137.1.toList then (if bt135.2 = bt137.2 then ((text_Upper.f a0).bind fun t139 => ((minstrelref15_Upper.f k a0).bind fun t140 => (if t139.toList = t140.toList then ((text_Reverse.f a0).bind fun t141 => ((minstrelref15_Reverse.f k a0).bind fun t142 => (if t141.toList = t142.toList then ((text_Less.f a0 a1).bind fun t143 => ((minstrelref15_Less.f k a0 a1).bind fun t144 => (minstrellaw15_TextMakes.j0 k a0 a2 (t143 != t144)))) else (minstrellaw15_TextMakes.j0 k a0 a2 true)))) else (minstrellaw15_TextMakes.j0 k a0 a2 true)))) else (minstrellaw15_TextMakes.j0 k a0 a2 true)) else (minstrellaw15_TextMakes.j0 k a0 a2 true)) else (minstrellaw15_TextMakes.j0 k a0 a2 true)) else (minstrellaw15_TextMakes.j0 k a0 a2 true)))) = some r := H
  have A5 := Aside0.mk A50
  clear A50
  replace H := Option.bind_eq_some_iff.mp H
  obtain ⟨⟨t135, t136⟩, A60, H⟩ := H
  replace H : ((minstrelref15_Char.f a2).bind fun bt137 => (if t131.toList = t133.toList then (if t132 = t134 then (if t135.toList = bt137.1.toList then (if t136 = bt137.2 then ((text_Upper.f a0).bind fun t139 => ((minstrelref15_Upper.f k a0).bind fun t140 => (if t139.toList = t140.toList then ((text_Reverse.f a0).bind fun t141 => ((minstrelref15_Reverse.f k a0).bind fun t142 => (if t141.toList = t142.toList then ((text_Less.f a0 a1).bind fun t143 => ((minstrelref15_Less.f k a0 a1).bind fun t144 => (minstrellaw15_TextMakes.j0 k a0 a2 (t143 != t144)))) else (minstrellaw15_TextMakes.j0 k a0 a2 true)))) else (minstrellaw15_TextMakes.j0 k a0 a2 true)))) else (minstrellaw15_TextMakes.j0 k a0 a2 true)) else (minstrellaw15_TextMakes.j0 k a0 a2 true)) else (minstrellaw15_TextMakes.j0 k a0 a2 true)) else (minstrellaw15_TextMakes.j0 k a0 a2 true))) = some r := H
  have A6 := Aside0.mk A60
  clear A60
  replace H := Option.bind_eq_some_iff.mp H
  obtain ⟨⟨t137, t138⟩, A70, H⟩ := H
  replace H : (if t131.toList = t133.toList then (if t132 = t134 then (if t135.toList = t137.toList then (if t136 = t138 then ((text_Upper.f a0).bind fun t139 => ((minstrelref15_Upper.f k a0).bind fun t140 => (if t139.toList = t140.toList then ((text_Reverse.f a0).bind fun t141 => ((minstrelref15_Reverse.f k a0).bind fun t142 => (if t141.toList = t142.toList then ((text_Less.f a0 a1).bind fun t143 => ((minstrelref15_Less.f k a0 a1).bind fun t144 => (minstrellaw15_TextMakes.j0 k a0 a2 (t143 != t144)))) else (minstrellaw15_TextMakes.j0 k a0 a2 true)))) else (minstrellaw15_TextMakes.j0 k a0 a2 true)))) else (minstrellaw15_TextMakes.j0 k a0 a2 true)) else (minstrellaw15_TextMakes.j0 k a0 a2 true)) else (minstrellaw15_TextMakes.j0 k a0 a2 true)) else (minstrellaw15_TextMakes.j0 k a0 a2 true)) = some r := H
  have A7 := Aside0.mk A70
  clear A70
  have HC8 := Aside0.mk H
  clear H
  go_enter Try.func8, Try.ntmps8
  go_upto_region 5 with (first | ((with_reducible refine gate_callee (f := 13) rfl ?_); refine goesL_ (some 22) rfl rfl Try.func13 (by kernel_rfl) rfl #[.string a0, .string a1] rfl (by (try simp only [List.map_toArray, List.map_cons, List.map_nil]); first | done | rfl | (simp only [List.length_drop, List.length_take]; rfl)) ?_; (with_reducible refine (text_Join.calls a0 a1 t131 t132 _ A4.out).mono ?_); rintro e w' ⟨rfl, ⟨nd, rfl⟩⟩; refine ⟨_, rfl, ?_⟩) | ((with_reducible refine gate_callee (f := 20) rfl ?_); refine goesL_ (some 28) rfl rfl Try.func20 (by kernel_rfl) rfl #[.string a0, .string a1] rfl (by (try simp only [List.map_toArray, List.map_cons, List.map_nil]); first | done | rfl | (simp only [List.length_drop, List.length_take]; rfl)) ?_; (with_reducible refine (minstrelref15_Join.calls a0 a1 t133 t134 _ A5.out).mono ?_); rintro e w' ⟨rfl, ⟨nd, rfl⟩⟩; refine ⟨_, rfl, ?_⟩) | ((with_reducible refine gate_callee (f := 21) rfl ?_); refine goesL_ (some 33) rfl rfl Try.func21 (by kernel_rfl) rfl #[.int .i64 a2] rfl (by (try simp only [List.map_toArray, List.map_cons, List.map_nil]); first | done | rfl | (simp only [List.length_drop, List.length_take]; rfl)) ?_; (with_reducible refine (text_Char.calls a2 t135 t136 _ A6.out).mono ?_); rintro e w9 ⟨rfl, hb⟩; refine ⟨_, rfl, ?_⟩; have n0_ := Aside0.mk (below_step (by repeat (first | (with_reducible first | exact HB.out | apply below_alloc | apply pw_below_drewN | apply below_drew1) | exact HB.out)) hb); clear HB; have HB := n0_; clear n0_; (try clear hb); (try clear hb2); (try clear hk); (try clear hi)) | ((with_reducible refine gate_callee (f := 22) rfl ?_); refine goesL_ (some 38) rfl rfl Try.func22 (by kernel_rfl) rfl #[.int .i64 a2] rfl (by (try simp only [List.map_toArray, List.map_cons, List.map_nil]); first | done | rfl | (simp only [List.length_drop, List.length_take]; rfl)) ?_; (with_reducible refine (minstrelref15_Char.calls a2 t137 t138 _ A7.out).mono ?_); rintro e w10 ⟨rfl, hb⟩; refine ⟨_, rfl, ?_⟩; have n0_ := Aside0.mk (below_step (by repeat (first | (with_reducible first | exact HB.out | apply below_alloc | apply pw_below_drewN | apply below_drew1) | exact HB.out)) hb); clear HB; have HB := n0_; clear n0_; (try clear hb); (try clear hb2); (try clear hk); (try clear hi)))
  (try simp only [Act.put, List.setIfInBounds_toArray, List.set_cons_zero, List.set_cons_succ])
  go_cut [81] (fun v81 wc => ∃ (kq : Nat) (x81_7 : Bool), v81 = .bool x81_7 ∧ Aside0 (minstrellaw15_TextMakes.j0 kq a0 a2 x81_7 = some r) ∧ Aside0 (kq ≤ k) ∧ Aside0 (Below w.heap.size w wc))
  case first =>
    have H := HC8.out
    clear HC8
    by_cases c11 : t131.toList = t133.toList
    · rw [if_pos c11] at H
      have c11b0 : (t131.toList == t133.toList) = true := beq_iff_eq.mpr c11
      have c11b1 : (t131.toList != t133.toList) = false := bne_eq_false_iff_eq.mpr c11
      clear c11
      (first | rw [c11b0] | (simp only [i64_w, i32_w]; rw [c11b0]) | rw [c11b1] | (simp only [i64_w, i32_w]; rw [c11b1]) | skip)
      by_cases c12 : t132 = t134
      · rw [if_pos c12] at H
        have c12b0 : (t132 == t134) = true := beq_iff_eq.mpr c12
        have c12b1 : (t132 != t134) = false := bne_eq_false_iff_eq.mpr c12
        clear c12
        by_cases c13 : t135.toList = t137.toList
        · rw [if_pos c13] at H
          have c13b0 : (t135.toList == t137.toList) = true := beq_iff_eq.mpr c13
          have c13b1 : (t135.toList != t137.toList) = false := bne_eq_false_iff_eq.mpr c13
          clear c13
          by_cases c14 : t136 = t138
          · rw [if_pos c14] at H
            have c14b0 : (t136 == t138) = true := beq_iff_eq.mpr c14
            have c14b1 : (t136 != t138) = false := bne_eq_false_iff_eq.mpr c14
            clear c14
            replace H := Option.bind_eq_some_iff.mp H
            obtain ⟨t139, A150, H⟩ := H
            replace H : ((minstrelref15_Upper.f k a0).bind fun t140 => (if t139.toList = t140.toList then ((text_Reverse.f a0).bind fun t141 => ((minstrelref15_Reverse.f k a0).bind fun t142 => (if t141.toList = t142.toList then ((text_Less.f a0 a1).bind fun t143 => ((minstrelref15_Less.f k a0 a1).bind fun t144 => (minstrellaw15_TextMakes.j0 k a0 a2 (t143 != t144)))) else (minstrellaw15_TextMakes.j0 k a0 a2 true)))) else (minstrellaw15_TextMakes.j0 k a0 a2 true))) = some r := H
            have A15 := Aside0.mk A150
            clear A150
            replace H := Option.bind_eq_some_iff.mp H
            obtain ⟨t140, A160, H⟩ := H
            replace H : (if t139.toList = t140.toList then ((text_Reverse.f a0).bind fun t141 => ((minstrelref15_Reverse.f k a0).bind fun t142 => (if t141.toList = t142.toList then ((text_Less.f a0 a1).bind fun t143 => ((minstrelref15_Less.f k a0 a1).bind fun t144 => (minstrellaw15_TextMakes.j0 k a0 a2 (t143 != t144)))) else (minstrellaw15_TextMakes.j0 k a0 a2 true)))) else (minstrellaw15_TextMakes.j0 k a0 a2 true)) = some r := H
            have A16 := Aside0.mk A160
            clear A160
            by_cases c17 : t139.toList = t140.toList
            · rw [if_pos c17] at H
              have c17b0 : (t139.toList == t140.toList) = true := beq_iff_eq.mpr c17
              have c17b1 : (t139.toList != t140.toList) = false := bne_eq_false_iff_eq.mpr c17
              clear c17
              replace H := Option.bind_eq_some_iff.mp H
              obtain ⟨t141, A180, H⟩ := H
              replace H : ((minstrelref15_Reverse.f k a0).bind fun t142 => (if t141.toList = t142.toList then ((text_Less.f a0 a1).bind fun t143 => ((minstrelref15_Less.f k a0 a1).bind fun t144 => (minstrellaw15_TextMakes.j0 k a0 a2 (t143 != t144)))) else (minstrellaw15_TextMakes.j0 k a0 a2 true))) = some r := H
              have A18 := Aside0.mk A180
              clear A180
              replace H := Option.bind_eq_some_iff.mp H
              obtain ⟨t142, A190, H⟩ := H
              replace H : (if t141.toList = t142.toList then ((text_Less.f a0 a1).bind fun t143 => ((minstrelref15_Less.f k a0 a1).bind fun t144 => (minstrellaw15_TextMakes.j0 k a0 a2 (t143 != t144)))) else (minstrellaw15_TextMakes.j0 k a0 a2 true)) = some r := H
              have A19 := Aside0.mk A190
              clear A190
              by_cases c20 : t141.toList = t142.toList
              · rw [if_pos c20] at H
                have c20b0 : (t141.toList == t142.toList) = true := beq_iff_eq.mpr c20
                have c20b1 : (t141.toList != t142.toList) = false := bne_eq_false_iff_eq.mpr c20
                clear c20
                replace H := Option.bind_eq_some_iff.mp H
                obtain ⟨t143, A210, H⟩ := H
                replace H : ((minstrelref15_Less.f k a0 a1).bind fun t144 => (minstrellaw15_TextMakes.j0 k a0 a2 (t143 != t144))) = some r := H
                have A21 := Aside0.mk A210
                clear A210
                replace H := Option.bind_eq_some_iff.mp H
                obtain ⟨t144, A220, H⟩ := H
                replace H : (minstrellaw15_TextMakes.j0 k a0 a2 (t143 != t144)) = some r := H
                have A22 := Aside0.mk A220
                clear A220
                have H' := Aside0.mk H
                clear H
                go_wp2_with (first | (go_at_call 23; (with_reducible refine (text_Upper.calls a0 t139 _ A15.out).mono ?_); rintro e w23 ⟨rfl, hb⟩; have n0_ := Aside0.mk (below_step (by repeat (first | (with_reducible first | exact HB.out | apply below_alloc | apply pw_below_drewN | apply below_drew1) | exact HB.out)) hb); clear HB; have HB := n0_; clear n0_; (try clear hb); (try clear hb2); (try clear hk); (try clear hi)) | (go_at_call 24; (with_reducible refine (minstrelref15_Upper.calls k a0 t140 _ A16.out).mono ?_); rintro e w24 ⟨rfl, hb⟩; have n0_ := Aside0.mk (below_step (by repeat (first | (with_reducible first | exact HB.out | apply below_alloc | apply pw_below_drewN | apply below_drew1) | exact HB.out)) hb); clear HB; have HB := n0_; clear n0_; (try clear hb); (try clear hb2); (try clear hk); (try clear hi)) | (go_at_call 18; (with_reducible refine (text_Reverse.calls a0 t141 _ A18.out).mono ?_); rintro e w25 ⟨rfl, hb⟩; have n0_ := Aside0.mk (below_step (by repeat (first | (with_reducible first | exact HB.out | apply below_alloc | apply pw_below_drewN | apply below_drew1) | exact HB.out)) hb); clear HB; have HB := n0_; clear n0_; (try clear hb); (try clear hb2); (try clear hk); (try clear hi)) | (go_at_call 25; (with_reducible refine (minstrelref15_Reverse.calls k a0 t142 _ A19.out).mono ?_); rintro e w26 ⟨rfl, hb⟩; have n0_ := Aside0.mk (below_step (by repeat (first | (with_reducible first | exact HB.out | apply below_alloc | apply pw_below_drewN | apply below_drew1) | exact HB.out)) hb); clear HB; have HB := n0_; clear n0_; (try clear hb); (try clear hb2); (try clear hk); (try clear hi)) | (go_at_call 17; (with_reducible refine (text_Less.calls a0 a1 t143 _ A21.out).mono ?_); rintro e w' ⟨rfl, ⟨nd, rfl⟩⟩) | (go_at_call 26; (with_reducible refine (minstrelref15_Less.calls k a0 a1 t144 _ A22.out).mono ?_); rintro e w' ⟨rfl, ⟨nd, rfl⟩⟩))
                go_meet
                case rel => exact ⟨_, ((t143 != t144)), (by first | rfl | (simp; done) | (simp [*]; done)), H', ⟨by first | omega | exact Nat.le_refl _⟩, ⟨by repeat (first | (with_reducible first | exact HB.out | apply below_alloc | apply pw_below_drewN | apply below_drew1) | exact HB.out)⟩⟩
              · rw [if_neg c20] at H
                have c20b0 : (t141.toList == t142.toList) = false := beq_eq_false_iff_ne.mpr c20
                have c20b1 : (t141.toList != t142.toList) = true := bne_iff_ne.mpr c20
                have H' := Aside0.mk H
                clear H
                go_wp2_with (first | (go_at_call 23; (with_reducible refine (text_Upper.calls a0 t139 _ A15.out).mono ?_); rintro e w27 ⟨rfl, hb⟩; have n0_ := Aside0.mk (below_step (by repeat (first | (with_reducible first | exact HB.out | apply below_alloc | apply pw_below_drewN | apply below_drew1) | exact HB.out)) hb); clear HB; have HB := n0_; clear n0_; (try clear hb); (try clear hb2); (try clear hk); (try clear hi)) | (go_at_call 24; (with_reducible refine (minstrelref15_Upper.calls k a0 t140 _ A16.out).mono ?_); rintro e w28 ⟨rfl, hb⟩; have n0_ := Aside0.mk (below_step (by repeat (first | (with_reducible first | exact HB.out | apply below_alloc | apply pw_below_drewN | apply below_drew1) | exact HB.out)) hb); clear HB; have HB := n0_; clear n0_; (try clear hb); (try clear hb2); (try clear hk); (try clear hi)) | (go_at_call 18; (with_reducible refine (text_Reverse.calls a0 t141 _ A18.out).mono ?_); rintro e w29 ⟨rfl, hb⟩; have n0_ := Aside0.mk (below_step (by repeat (first | (with_reducible first | exact HB.out | apply below_alloc | apply pw_below_drewN | apply below_drew1) | exact HB.out)) hb); clear HB; have HB := n0_; clear n0_; (try clear hb); (try clear hb2); (try clear hk); (try clear hi)) | (go_at_call 25; (with_reducible refine (minstrelref15_Reverse.calls k a0 t142 _ A19.out).mono ?_); rintro e w30 ⟨rfl, hb⟩; have n0_ := Aside0.mk (below_step (by repeat (first | (with_reducible first | exact HB.out | apply below_alloc | apply pw_below_drewN | apply below_drew1) | exact HB.out)) hb); clear HB; have HB := n0_; clear n0_; (try clear hb); (try clear hb2); (try clear hk); (try clear hi)))
                go_meet
                case rel => exact ⟨_, (true), (by first | rfl | (simp; done) | (simp [*]; done)), H', ⟨by first | omega | exact Nat.le_refl _⟩, ⟨by repeat (first | (with_reducible first | exact HB.out | apply below_alloc | apply pw_below_drewN | apply below_drew1) | exact HB.out)⟩⟩
            · rw [if_neg c17] at H
              have c17b0 : (t139.toList == t140.toList) = false := beq_eq_false_iff_ne.mpr c17
              have c17b1 : (t139.toList != t140.toList) = true := bne_iff_ne.mpr c17
              have H' := Aside0.mk H
              clear H
              go_wp2_with (first | (go_at_call 23; (with_reducible refine (text_Upper.calls a0 t139 _ A15.out).mono ?_); rintro e w31 ⟨rfl, hb⟩; have n0_ := Aside0.mk (below_step (by repeat (first | (with_reducible first | exact HB.out | apply below_alloc | apply pw_below_drewN | apply below_drew1) | exact HB.out)) hb); clear HB; have HB := n0_; clear n0_; (try clear hb); (try clear hb2); (try clear hk); (try clear hi)) | (go_at_call 24; (with_reducible refine (minstrelref15_Upper.calls k a0 t140 _ A16.out).mono ?_); rintro e w32 ⟨rfl, hb⟩; have n0_ := Aside0.mk (below_step (by repeat (first | (with_reducible first | exact HB.out | apply below_alloc | apply pw_below_drewN | apply below_drew1) | exact HB.out)) hb); clear HB; have HB := n0_; clear n0_; (try clear hb); (try clear hb2); (try clear hk); (try clear hi)))
              go_meet
              case rel => exact ⟨_, (true), (by first | rfl | (simp; done) | (simp [*]; done)), H', ⟨by first | omega | exact Nat.le_refl _⟩, ⟨by repeat (first | (with_reducible first | exact HB.out | apply below_alloc | apply pw_below_drewN | apply below_drew1) | exact HB.out)⟩⟩
          · rw [if_neg c14] at H
            have c14b0 : (t136 == t138) = false := beq_eq_false_iff_ne.mpr c14
            have c14b1 : (t136 != t138) = true := bne_iff_ne.mpr c14
            have H' := Aside0.mk H
            clear H
            go_wp2
            go_meet
            case rel => exact ⟨_, (true), (by first | rfl | (simp; done) | (simp [*]; done)), H', ⟨by first | omega | exact Nat.le_refl _⟩, ⟨by repeat (first | (with_reducible first | exact HB.out | apply below_alloc | apply pw_below_drewN | apply below_drew1) | exact HB.out)⟩⟩
        · rw [if_neg c13] at H
          have c13b0 : (t135.toList == t137.toList) = false := beq_eq_false_iff_ne.mpr c13
          have c13b1 : (t135.toList != t137.toList) = true := bne_iff_ne.mpr c13
          have H' := Aside0.mk H
          clear H
          go_wp2
          go_meet
          case rel => exact ⟨_, (true), (by first | rfl | (simp; done) | (simp [*]; done)), H', ⟨by first | omega | exact Nat.le_refl _⟩, ⟨by repeat (first | (with_reducible first | exact HB.out | apply below_alloc | apply pw_below_drewN | apply below_drew1) | exact HB.out)⟩⟩
      · rw [if_neg c12] at H
        have c12b0 : (t132 == t134) = false := beq_eq_false_iff_ne.mpr c12
        have c12b1 : (t132 != t134) = true := bne_iff_ne.mpr c12
        have H' := Aside0.mk H
        clear H
        go_wp2
        go_meet
        case rel => exact ⟨_, (true), (by first | rfl | (simp; done) | (simp [*]; done)), H', ⟨by first | omega | exact Nat.le_refl _⟩, ⟨by repeat (first | (with_reducible first | exact HB.out | apply below_alloc | apply pw_below_drewN | apply below_drew1) | exact HB.out)⟩⟩
    · rw [if_neg c11] at H
      have c11b0 : (t131.toList == t133.toList) = false := beq_eq_false_iff_ne.mpr c11
      have c11b1 : (t131.toList != t133.toList) = true := bne_iff_ne.mpr c11
      (first | rw [c11b0] | (simp only [i64_w, i32_w]; rw [c11b0]) | rw [c11b1] | (simp only [i64_w, i32_w]; rw [c11b1]) | skip)
      have H' := Aside0.mk H
      clear H
      go_wp2
      go_meet
      case rel => exact ⟨_, (true), (by first | rfl | (simp; done) | (simp [*]; done)), H', ⟨by first | omega | exact Nat.le_refl _⟩, ⟨by repeat (first | (with_reducible first | exact HB.out | apply below_alloc | apply pw_below_drewN | apply below_drew1) | exact HB.out)⟩⟩
  case rest =>
    clear HC8
    try clear c1
    try clear c2
    try clear p2
    try clear c8
    try clear c11
    try clear c11b0
    try clear c11b1
    try clear c12
    try clear c12b0
    try clear c12b1
    try clear c13
    try clear c13b0
    try clear c13b1
    try clear c14
    try clear c14b0
    try clear c14b1
    try clear c17
    try clear c17b0
    try clear c17b1
    try clear c20
    try clear c20b0
    try clear c20b1
    try clear c21
    try clear c22
    obtain ⟨kq, x81_7, rfl, HA, HJ7, HB⟩ := hcut
    cases kq with
    | zero => exact absurd HA.out (by simp [minstrellaw15_TextMakes.j0])
    | succ kj7 =>
      have H := HA.out
      clear HA
      simp only [minstrellaw15_TextMakes.j0] at H
      by_cases c33 : x81_7 = true
      · subst c33
        have H1 : (some false) = some r := by rw [if_pos rfl] at H; exact H
        clear H
        have H := H1
        clear H1
        obtain rfl := Option.some.inj H
        go_wp2
        go_ret
        exact ⟨by first | rfl | (simp [errW_none, errW_some] <;> rfl) | (simp [*, errW_none, errW_some] <;> rfl), by repeat (first | (with_reducible first | exact HB.out | apply below_alloc | apply pw_below_drewN | apply below_drew1) | exact HB.out)⟩
      · replace c33 := Bool.eq_false_iff.mpr c33
        subst c33
        have H1 : ((text_Rep.f kj7 a0 a2).bind fun bt145 => ((minstrelref15_Rep.f kj7 a0 a2).bind fun bt147 => (if bt145.1.toList = bt147.1.toList then (if bt145.2 = bt147.2 then ((minstrellaw15_lives.f).bind fun t149 => (some t149)) else (some false)) else (some false)))) = some r := by rw [if_neg (show ¬ (false = true) by decide)] at H; exact H
        clear H
        have H := H1
        clear H1
        replace H := Option.bind_eq_some_iff.mp H
        obtain ⟨⟨t145, t146⟩, A340, H⟩ := H
        replace H : ((minstrelref15_Rep.f kj7 a0 a2).bind fun bt147 => (if t145.toList = bt147.1.toList then (if t146 = bt147.2 then ((minstrellaw15_lives.f).bind fun t149 => (some t149)) else (some false)) else (some false))) = some r := H
        have A34 := Aside0.mk A340
        clear A340
        replace H := Option.bind_eq_some_iff.mp H
        obtain ⟨⟨t147, t148⟩, A350, H⟩ := H
        replace H : (if t145.toList = t147.toList then (if t146 = t148 then ((minstrellaw15_lives.f).bind fun t149 => (some t149)) else (some false)) else (some false)) = some r := H
        have A35 := Aside0.mk A350
        clear A350
        by_cases c36 : t145.toList = t147.toList
        · rw [if_pos c36] at H
          have c36b0 : (t145.toList == t147.toList) = true := beq_iff_eq.mpr c36
          have c36b1 : (t145.toList != t147.toList) = false := bne_eq_false_iff_eq.mpr c36
          clear c36
          by_cases c37 : t146 = t148
          · rw [if_pos c37] at H
            have c37b0 : (t146 == t148) = true := beq_iff_eq.mpr c37
            have c37b1 : (t146 != t148) = false := bne_eq_false_iff_eq.mpr c37
            clear c37
            replace H := Option.bind_eq_some_iff.mp H
            obtain ⟨t149, A380, H⟩ := H
            replace H : (some t149) = some r := H
            have A38 := Aside0.mk A380
            clear A380
            obtain rfl := Option.some.inj H
            go_wp2_with (first | ((with_reducible refine gate_callee (f := 19) rfl ?_); refine goesL_ (some 85) rfl rfl Try.func19 (by kernel_rfl) rfl #[.string a0, .int .i64 a2] rfl (by (try simp only [List.map_toArray, List.map_cons, List.map_nil]); first | done | rfl | (simp only [List.length_drop, List.length_take]; rfl)) ?_; (with_reducible refine (text_Rep.calls kj7 a0 a2 t145 t146 _ A34.out).mono ?_); rintro e w39 ⟨rfl, hb⟩; refine ⟨_, rfl, ?_⟩; have n0_ := Aside0.mk (below_step (by repeat (first | (with_reducible first | exact HB.out | apply below_alloc | apply pw_below_drewN | apply below_drew1) | exact HB.out)) hb); clear HB; have HB := n0_; clear n0_; (try clear hb); (try clear hb2); (try clear hk); (try clear hi)) | ((with_reducible refine gate_callee (f := 27) rfl ?_); refine goesL_ (some 91) rfl rfl Try.func27 (by kernel_rfl) rfl #[.string a0, .int .i64 a2] rfl (by (try simp only [List.map_toArray, List.map_cons, List.map_nil]); first | done | rfl | (simp only [List.length_drop, List.length_take]; rfl)) ?_; (with_reducible refine (minstrelref15_Rep.calls kj7 a0 a2 t147 t148 _ A35.out).mono ?_); rintro e w40 ⟨rfl, hb⟩; refine ⟨_, rfl, ?_⟩; have n0_ := Aside0.mk (below_step (by repeat (first | (with_reducible first | exact HB.out | apply below_alloc | apply pw_below_drewN | apply below_drew1) | exact HB.out)) hb); clear HB; have HB := n0_; clear n0_; (try clear hb); (try clear hb2); (try clear hk); (try clear hi)) | (go_at_call 9; (with_reducible refine (minstrellaw15_lives.calls  t149 _ ?side1 A38.out).mono ?_); (case side1 => first | exact HG.out | exact globDrewN HG.out _ | exact globBelow HG.out (by repeat (first | (with_reducible first | exact HB.out | apply below_alloc | apply pw_below_drewN | apply below_drew1) | exact HB.out)) | (repeat (first | exact HG.out | apply globDrewN | apply globDrew))); rintro e w41 ⟨rfl, hb⟩; have n0_ := Aside0.mk (below_step (by repeat (first | (with_reducible first | exact HB.out | apply below_alloc | apply pw_below_drewN | apply below_drew1) | exact HB.out)) hb); clear HB; have HB := n0_; clear n0_; (try clear hb); (try clear hb2); (try clear hk); (try clear hi)))
            go_ret
            exact ⟨by first | rfl | (simp [errW_none, errW_some] <;> rfl) | (simp [*, errW_none, errW_some] <;> rfl), by repeat (first | (with_reducible first | exact HB.out | apply below_alloc | apply pw_below_drewN | apply below_drew1) | exact HB.out)⟩
          · rw [if_neg c37] at H
            have c37b0 : (t146 == t148) = false := beq_eq_false_iff_ne.mpr c37
            have c37b1 : (t146 != t148) = true := bne_iff_ne.mpr c37
            obtain rfl := Option.some.inj H
            go_wp2_with (first | ((with_reducible refine gate_callee (f := 19) rfl ?_); refine goesL_ (some 85) rfl rfl Try.func19 (by kernel_rfl) rfl #[.string a0, .int .i64 a2] rfl (by (try simp only [List.map_toArray, List.map_cons, List.map_nil]); first | done | rfl | (simp only [List.length_drop, List.length_take]; rfl)) ?_; (with_reducible refine (text_Rep.calls kj7 a0 a2 t145 t146 _ A34.out).mono ?_); rintro e w42 ⟨rfl, hb⟩; refine ⟨_, rfl, ?_⟩; have n0_ := Aside0.mk (below_step (by repeat (first | (with_reducible first | exact HB.out | apply below_alloc | apply pw_below_drewN | apply below_drew1) | exact HB.out)) hb); clear HB; have HB := n0_; clear n0_; (try clear hb); (try clear hb2); (try clear hk); (try clear hi)) | ((with_reducible refine gate_callee (f := 27) rfl ?_); refine goesL_ (some 91) rfl rfl Try.func27 (by kernel_rfl) rfl #[.string a0, .int .i64 a2] rfl (by (try simp only [List.map_toArray, List.map_cons, List.map_nil]); first | done | rfl | (simp only [List.length_drop, List.length_take]; rfl)) ?_; (with_reducible refine (minstrelref15_Rep.calls kj7 a0 a2 t147 t148 _ A35.out).mono ?_); rintro e w43 ⟨rfl, hb⟩; refine ⟨_, rfl, ?_⟩; have n0_ := Aside0.mk (below_step (by repeat (first | (with_reducible first | exact HB.out | apply below_alloc | apply pw_below_drewN | apply below_drew1) | exact HB.out)) hb); clear HB; have HB := n0_; clear n0_; (try clear hb); (try clear hb2); (try clear hk); (try clear hi)))
            go_ret
            exact ⟨by first | rfl | (simp [errW_none, errW_some] <;> rfl) | (simp [*, errW_none, errW_some] <;> rfl), by repeat (first | (with_reducible first | exact HB.out | apply below_alloc | apply pw_below_drewN | apply below_drew1) | exact HB.out)⟩
        · rw [if_neg c36] at H
          have c36b0 : (t145.toList == t147.toList) = false := beq_eq_false_iff_ne.mpr c36
          have c36b1 : (t145.toList != t147.toList) = true := bne_iff_ne.mpr c36
          obtain rfl := Option.some.inj H
          go_wp2_with (first | ((with_reducible refine gate_callee (f := 19) rfl ?_); refine goesL_ (some 85) rfl rfl Try.func19 (by kernel_rfl) rfl #[.string a0, .int .i64 a2] rfl (by (try simp only [List.map_toArray, List.map_cons, List.map_nil]); first | done | rfl | (simp only [List.length_drop, List.length_take]; rfl)) ?_; (with_reducible refine (text_Rep.calls kj7 a0 a2 t145 t146 _ A34.out).mono ?_); rintro e w44 ⟨rfl, hb⟩; refine ⟨_, rfl, ?_⟩; have n0_ := Aside0.mk (below_step (by repeat (first | (with_reducible first | exact HB.out | apply below_alloc | apply pw_below_drewN | apply below_drew1) | exact HB.out)) hb); clear HB; have HB := n0_; clear n0_; (try clear hb); (try clear hb2); (try clear hk); (try clear hi)) | ((with_reducible refine gate_callee (f := 27) rfl ?_); refine goesL_ (some 91) rfl rfl Try.func27 (by kernel_rfl) rfl #[.string a0, .int .i64 a2] rfl (by (try simp only [List.map_toArray, List.map_cons, List.map_nil]); first | done | rfl | (simp only [List.length_drop, List.length_take]; rfl)) ?_; (with_reducible refine (minstrelref15_Rep.calls kj7 a0 a2 t147 t148 _ A35.out).mono ?_); rintro e w45 ⟨rfl, hb⟩; refine ⟨_, rfl, ?_⟩; have n0_ := Aside0.mk (below_step (by repeat (first | (with_reducible first | exact HB.out | apply below_alloc | apply pw_below_drewN | apply below_drew1) | exact HB.out)) hb); clear HB; have HB := n0_; clear n0_; (try clear hb); (try clear hb2); (try clear hk); (try clear hi)))
          go_ret
          exact ⟨by first | rfl | (simp [errW_none, errW_some] <;> rfl) | (simp [*, errW_none, errW_some] <;> rfl), by repeat (first | (with_reducible first | exact HB.out | apply below_alloc | apply pw_below_drewN | apply below_drew1) | exact HB.out)⟩

/-- THE ONE PURE STATEMENT of minstrellaw15_TextMakes: yours. -/
def minstrellaw15_TextMakes.Pure : Prop := ∀ (a0 : ByteArray) (a1 : ByteArray) (a2 : Int), a0.size ≤ 140737488351232 → a1.size ≤ 140737488351232 → (Lit.int .i64 a2).wf = true → ∃ k, minstrellaw15_TextMakes.f k a0 a1 a2 = some true
theorem minstrellaw15_TextMakes.walk (P : minstrellaw15_TextMakes.Pure) (a0 : ByteArray) (a1 : ByteArray) (a2 : Int) (w : World) (w0 : a0.size ≤ 140737488351232) (w1 : a1.size ≤ 140737488351232) (w2 : (Lit.int .i64 a2).wf = true) (hG : MaxLaid w) :
    Calls Try.prog 8 #[.string a0, .string a1, .int .i64 a2] w fun e w' => e = .returned (.bool true) ∧ Below w.heap.size w w' := by
  obtain ⟨k, h⟩ := P a0 a1 a2 w0 w1 w2
  refine (minstrellaw15_TextMakes.calls k a0 a1 a2 true w hG h).mono ?_
  rintro e w' ⟨rfl, hd⟩
  exact ⟨rfl, hd⟩

end Go.Proofs.Ythjbdkgbibidkaa.Pu
