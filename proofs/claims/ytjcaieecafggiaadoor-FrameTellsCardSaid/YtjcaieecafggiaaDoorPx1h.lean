-- Written by a program of this claim's session, out of the translation.
import Derived.Test.YtjcaieecafggiaaDoorPx0
import Derived.Test.YtjcaieecafggiaaDoorFrameD
import Derived.Test.YtjcaieecafggiaaDoorFrameE
namespace Go.Proofs.YtjcaieecafggiaaDoor.Px
open Go.RowKit Go.Proofs.YtjcaieecafggiaaDoorW.PrintWords Go.Proofs.YtjcaieecafggiaaDoorW.PrintLast Go.Proofs.YtjcaieecafggiaaDoorW.PrintMore Go.Proofs.YtjcaieecafggiaaDoor.Pr
attribute [local go_sem] max2_int min2_int max_two min_two max_three min_three max_four min_four   -- for this text's walks alone
set_option linter.unusedVariables false
set_option linter.unusedSimpArgs false

/-! ### minstrellaw06_turn: function 18 -/
def minstrellaw06_turn.f (l0 : List Int) (a1 : Int) : Option (List Int) := if (wrap64 (8 * (wrap64 ((l0.length : Int) - 4)))) = 0 then (none) else (if 0 ≤ (wrap64 (4 + (wrap64 (Int.tdiv (Int.tmod a1 (wrap64 (8 * (wrap64 ((l0.length : Int) - 4))))) 8)))) then (if (wrap64 (4 + (wrap64 (Int.tdiv (Int.tmod a1 (wrap64 (8 * (wrap64 ((l0.length : Int) - 4))))) 8)))) < (l0.length : Int) then (if 0 ≤ (IntKind.u64.wrap (Int.tmod (Int.tmod a1 (wrap64 (8 * (wrap64 ((l0.length : Int) - 4))))) 8)) then (some (l0.set ((wrap64 (4 + (wrap64 (Int.tdiv (Int.tmod a1 (wrap64 (8 * (wrap64 ((l0.length : Int) - 4))))) 8)))) : Int).toNat (Go.bits .xor .u8 (rd l0 (wrap64 (4 + (wrap64 (Int.tdiv (Int.tmod a1 (wrap64 (8 * (wrap64 ((l0.length : Int) - 4))))) 8))))) (shl .u8 1 (IntKind.u64.wrap (Int.tmod (Int.tmod a1 (wrap64 (8 * (wrap64 ((l0.length : Int) - 4))))) 8)))))) else (none)) else (none)) else (none))
set_option maxHeartbeats 8000000 in
set_option maxRecDepth 100000 in
theorem minstrellaw06_turn.calls (P0_ : Nat → Prop) (u9000_ : Value) (l0 : List Int) (a1 : Int) (r : List Int) (w0 w : World) (hB : Below w0.heap.size w0 w) (ho0 : Kd.R (Kd.int .u8) 5 w w0.heap.size P0_ u9000_ l0) (h : minstrellaw06_turn.f l0 a1 = some r) :
    Calls Tryd.prog 18 #[u9000_, .int .i64 a1] w fun e w' => e = .returned (.tuple #[]) ∧ Kd.R (Kd.int .u8) 5 w' w0.heap.size (fun k_ => (P0_ k_ ∨ w.heap.size ≤ k_)) u9000_ r ∧ Below w0.heap.size w0 w' ∧ Kept w w' (fun k_ => P0_ k_) := by
  have HO0 := Aside0.mk (show Kd.R (Kd.int .u8) 5 w w0.heap.size (fun k_ => (P0_ k_ ∨ w.heap.size ≤ k_)) u9000_ l0 from Kd.R_mono ho0 (fun k_ hk => (.inl hk)))
  have HK := Aside0.mk (Kept.refl w (fun k_ => P0_ k_))
  have HW0 := Aside0.mk hB.size
  have HB := Aside0.mk hB
  clear hB
  have H : (if (wrap64 (8 * (wrap64 ((l0.length : Int) - 4)))) = 0 then (none) else (if 0 ≤ (wrap64 (4 + (wrap64 (Int.tdiv (Int.tmod a1 (wrap64 (8 * (wrap64 ((l0.length : Int) - 4))))) 8)))) then (if (wrap64 (4 + (wrap64 (Int.tdiv (Int.tmod a1 (wrap64 (8 * (wrap64 ((l0.length : Int) - 4))))) 8)))) < (l0.length : Int) then (if 0 ≤ (IntKind.u64.wrap (Int.tmod (Int.tmod a1 (wrap64 (8 * (wrap64 ((l0.length : Int) - 4))))) 8)) then (some (l0.set ((wrap64 (4 + (wrap64 (Int.tdiv (Int.tmod a1 (wrap64 (8 * (wrap64 ((l0.length : Int) - 4))))) 8)))) : Int).toNat (Go.bits .xor .u8 (rd l0 (wrap64 (4 + (wrap64 (Int.tdiv (Int.tmod a1 (wrap64 (8 * (wrap64 ((l0.length : Int) - 4))))) 8))))) (shl .u8 1 (IntKind.u64.wrap (Int.tmod (Int.tmod a1 (wrap64 (8 * (wrap64 ((l0.length : Int) - 4))))) 8)))))) else (none)) else (none)) else (none))) = some r := h
  clear h
  by_cases c3 : (wrap64 (8 * (wrap64 ((l0.length : Int) - 4)))) = 0
  · rw [if_pos c3] at H
    exact absurd H (by simp)
  · rw [if_neg c3] at H
    have c3b0 : ((wrap64 (8 * (wrap64 ((l0.length : Int) - 4)))) == 0) = false := beq_eq_false_iff_ne.mpr c3
    have c3b1 : ((wrap64 (8 * (wrap64 ((l0.length : Int) - 4)))) != 0) = true := bne_iff_ne.mpr c3
    obtain ⟨ji4, hji4⟩ : ∃ j_ : Int, (wrap64 (4 + (wrap64 (Int.tdiv (Int.tmod a1 (wrap64 (8 * (wrap64 ((l0.length : Int) - 4))))) 8)))) = j_ := ⟨_, rfl⟩
    replace H : (if 0 ≤ (ji4) then (if (ji4) < (l0.length : Int) then (if 0 ≤ (IntKind.u64.wrap (Int.tmod (Int.tmod a1 (wrap64 (8 * (wrap64 ((l0.length : Int) - 4))))) 8)) then (some (l0.set ((ji4) : Int).toNat (Go.bits .xor .u8 (rd l0 (ji4)) (shl .u8 1 (IntKind.u64.wrap (Int.tmod (Int.tmod a1 (wrap64 (8 * (wrap64 ((l0.length : Int) - 4))))) 8)))))) else (none)) else (none)) else (none)) = some r := by first | (rw [hji4] at H; exact H) | (simp only [hji4] at H ⊢; exact H)
    have hji4w : (IntKind.i64.wrap (4 + (wrap64 (Int.tdiv (Int.tmod a1 (wrap64 (8 * (wrap64 ((l0.length : Int) - 4))))) 8)))) = ji4 := (i64_w _).trans hji4
    by_cases c5 : 0 ≤ (ji4)
    · rw [if_pos c5] at H
      have c5b0 : decide (0 ≤ (ji4)) = true := decide_eq_true c5
      clear c5
      by_cases c6 : (ji4) < (l0.length : Int)
      · rw [if_pos c6] at H
        have c6b0 : decide ((ji4) < (l0.length : Int)) = true := decide_eq_true c6
        clear c6
        obtain ⟨ji7, hji7⟩ : ∃ j_ : Int, (IntKind.u64.wrap (Int.tmod (Int.tmod a1 (wrap64 (8 * (wrap64 ((l0.length : Int) - 4))))) 8)) = j_ := ⟨_, rfl⟩
        replace H : (if 0 ≤ (ji7) then (some (l0.set ((ji4) : Int).toNat (Go.bits .xor .u8 (rd l0 (ji4)) (shl .u8 1 (ji7))))) else (none)) = some r := by first | (rw [hji7] at H; exact H) | (simp only [hji7] at H ⊢; exact H)
        by_cases c8 : 0 ≤ (ji7)
        · rw [if_pos c8] at H
          have c8b0 := eq_true c8
          have c8b1 : decide (0 ≤ (ji7)) = true := decide_eq_true c8
          clear c8
          obtain ⟨ji9, hji9⟩ : ∃ j_ : Int, (shl .u8 1 (ji7)) = j_ := ⟨_, rfl⟩
          replace H : (some (l0.set ((ji4) : Int).toNat (Go.bits .xor .u8 (rd l0 (ji4)) (ji9)))) = some r := by first | (rw [hji9] at H; exact H) | (simp only [hji9] at H ⊢; exact H)
          have hji9_ : (IntKind.u8.wrap (1 * 2 ^ min (ji7).toNat 8)) = ji9 := hji9
          have hji9z : (ji7) ≤ 8 → (IntKind.u8.wrap (1 * 2 ^ (ji7).toNat)) = ji9 := shl_small hji9
          have hji9u : (IntKind.u8.wrap (2 ^ min (ji7).toNat 8)) = ji9 := by have h_ := hji9_; rw [Int.one_mul] at h_; exact h_
          have hji9v : (ji7) ≤ 8 → (IntKind.u8.wrap (2 ^ (ji7).toNat)) = ji9 := fun hle_ => by have h_ := hji9z hle_; rw [Int.one_mul] at h_; exact h_
          obtain ⟨y102, hy102⟩ : ∃ y_ : List Int, y_ = (l0.set ((ji4) : Int).toNat (Go.bits .xor .u8 (rd l0 (ji4)) (ji9))) := ⟨_, rfl⟩
          replace H : (some y102) = some r := by first | (rw [hy102]; with_reducible exact H) | (have H2_ := (Option.bind_some _ _).symm.trans H; rw [hy102]; with_reducible exact H2_) | (have H2_ := (Option.bind_some _ _).symm.trans H; with_reducible exact H2_) | with_reducible exact H | (rw [hy102]; exact H) | exact H
          have Ny102 := Aside0.mk hy102
          clear hy102
          obtain rfl := Option.some.inj H
          obtain ⟨Ao11, co11, eo11⟩ := Kd.R_slice HO0.out
          subst eo11
          have p101 : 0 ≤ ((ji4) : Int) := of_decide_eq_true (by first | (with_reducible assumption) | assumption)
          have q101 : (ji4) < (l0.length : Int) := of_decide_eq_true (by first | (with_reducible assumption) | assumption)
          obtain ⟨ad101, e101, hx101_0⟩ := Kd.at_int (Kd.R_reads' HO0.out).2.2 (ji4) p101 q101
          cases e101
          replace p101 := eq_true p101
          replace q101 := eq_true q101
          have p10 : 0 ≤ ((ji4) : Int) := of_decide_eq_true (by first | (with_reducible assumption) | assumption)
          have q10 : ((ji4) : Int) < ((l0.length : Int) : Int) := of_decide_eq_true (by first | (with_reducible assumption) | assumption)
          obtain ⟨go10, co10, eo10, gb10, gl10, cl10, HG10⟩ := Kd.R_form HO0.out (by omega)
          (first | cases eo10 | (injection eo10 with ea_ en_ ec_; (first | subst ea_ | (injection ea_ with ea_; subst ea_)); subst ec_; clear en_))
          have GB10 := Aside0.mk gb10
          have GG10 := Aside0.mk HG10
          clear gb10 gl10 HG10
          have HMgo10 := Aside0.mk (show (P0_ go10 ∨ w.heap.size ≤ go10) from (HO0.out.1 _ rfl))
          (first | simp only [add_plain] at hx101_0 | skip)
          obtain ⟨hx10_0, hf10_0⟩ := Kd.R_celln 0 HO0.out ((ji4) : Int) p10 q10
          replace p10 := eq_true p10
          replace q10 := eq_true q10
          have HP12 := Kd.R_putg HO0.out ((ji4) : Int) (Go.bits .xor .u8 (rd l0 (ji4)) (ji9))
          go_enter Tryd.func18, Tryd.ntmps18
          go_wp2_with (first | ((with_reducible refine gate_store (t := 5) (p := 26) rfl ?_); refine store_event (t := 5) (p := 26) (v := ?vo_w13) (w1 := (w.setCell ⟨go10, ((ji4) : Int).toNat, none⟩ (.int .u8 (Go.bits .xor .u8 (rd l0 (ji4)) (ji9))))) ?hg ?ho ?hn ?hr ?_; (case ho => rfl); (case hg => rfl); (case hn => rfl); (case hr => first | (go_simp; done) | (go_simp; rfl)); intro w13 hw; have hg : w.grownBy w13 (some go10) := (by rw [hw]; exact HP12.2); have hp_ : Kd.R (Kd.int .u8) 5 w13 w0.heap.size (fun k_ => (P0_ k_ ∨ w.heap.size ≤ k_)) (.slice (some ⟨go10, 0, none⟩) l0.length co11) y102 := (by rw [hw, Ny102.out]; exact HP12.1); clear HP12; have n0_ := Aside0.mk (hp_); have n1_ := Aside0.mk ((by rw [hw]; exact below_set (HB.out) GB10.out : Below w0.heap.size w0 w13)); have n2_ := Aside0.mk (Kept.of_grown (S := (fun k_ => P0_ k_)) hg (by repeat (first | (with_reducible first | exact HK.out | apply Kept.alloc | apply Kept.drewN | apply Kept.drew) | exact HK.out)) (fun k_ e_ => (HO0.out.1 k_ e_))); clear HO0; clear HB; clear HK; have HO0 := n0_; have HB := n1_; have HK := n2_; clear n0_ n1_ n2_; clear hg hw hp_))
          first | go_end0 | ((try simp only [Exit.inBlock, Exit.then]); refine bodyPost_ret (results_none rfl _ _ _) rfl ?_)
          exact ⟨by first | rfl | (simp [errW_none, errW_some] <;> rfl) | (simp only [← hji4, ← hji7, ← hji9]; first | rfl | (simp [errW_none, errW_some] <;> rfl)) | (simp [*, errW_none, errW_some] <;> rfl), by (with_reducible repeat (first | apply Kd.R_alloc | apply Kd.R_drewN | apply Kd.R_drew)); exact HO0.out, by repeat (first | (with_reducible first | exact HB.out | apply below_alloc | apply pw_below_drewN | apply below_drew1) | exact HB.out), by repeat (first | (with_reducible first | exact HK.out | apply Kept.alloc | apply Kept.drewN | apply Kept.drew) | exact HK.out)⟩
        · rw [if_neg c8] at H
          exact absurd H (by simp)
      · rw [if_neg c6] at H
        exact absurd H (by simp)
    · rw [if_neg c5] at H
      exact absurd H (by simp)

/-! ### minstrellaw06_FrameTells: function 7 -/
mutual
def minstrellaw06_FrameTells.j0 : Nat → List Int → List Int → List Int → List Int → Bool → Option (Bool)
  | 0, _, _, _, _, _ => none
  | k + 1, x1, x2, x3, x5, x35 => if x35 = true then (some false) else ((minstrellaw06_own.f x5).bind fun t110 => (minstrellaw06_FrameTells.l0 k x1 x2 x3 x5 t110 0))
def minstrellaw06_FrameTells.l0 : Nat → List Int → List Int → List Int → List Int → List Int → Int → Option (Bool)
  | 0, _, _, _, _, _, _ => none
  | k + 1, x1, x2, x3, x5, x7, x8 => if x8 < 3 then (if 0 ≤ x8 then (if x8 < (x1.length : Int) then ((minstrellaw06_turn.f x7 (wrap64 (rd x1 x8))).bind fun t114 => (minstrellaw06_FrameTells.l0 k x1 x2 x3 x5 t114 (wrap64 (x8 + 1)))) else (none)) else (none)) else ((minstrellaw06_own.f x5).bind fun t115 => (minstrellaw06_FrameTells.l1 k x2 x3 x5 x7 t115 (wrap64 (8 * (wrap64 ((x5.length : Int) - 8)))) 0))
def minstrellaw06_FrameTells.l1 : Nat → List Int → List Int → List Int → List Int → List Int → Int → Int → Option (Bool)
  | 0, _, _, _, _, _, _, _ => none
  | k + 1, x2, x3, x5, x7, x9, x10, x11 => if x11 < 32 then (if x10 > 0 then (if 0 < (x2.length : Int) then (if x10 = 0 then (none) else (minstrellaw06_FrameTells.j3 k x2 x3 x5 x7 x9 x10 x11 (decide ((wrap64 ((Int.tmod (wrap64 (rd x2 0)) x10) + x11)) < x10)))) else (none)) else (minstrellaw06_FrameTells.j3 k x2 x3 x5 x7 x9 x10 x11 false)) else (minstrellaw06_FrameTells.j3 k x2 x3 x5 x7 x9 x10 x11 false)
def minstrellaw06_FrameTells.j3 : Nat → List Int → List Int → List Int → List Int → List Int → Int → Int → Bool → Option (Bool)
  | 0, _, _, _, _, _, _, _, _ => none
  | k + 1, x2, x3, x5, x7, x9, x10, x11, x71 => if x71 = true then (if 0 < (x3.length : Int) then (if 0 ≤ (IntKind.u64.wrap (x11)) then (if (Go.bits .and .u32 (shr .u32 (rd x3 0) (IntKind.u64.wrap (x11))) 1) = 1 then (if 0 < (x2.length : Int) then (if x10 = 0 then (none) else ((minstrellaw06_turn.f x9 (wrap64 ((wrap64 (32 + (Int.tmod (wrap64 (rd x2 0)) x10))) + x11))).bind fun t121 => (minstrellaw06_FrameTells.l1 k x2 x3 x5 x7 t121 x10 (wrap64 (x11 + 1))))) else (none)) else (minstrellaw06_FrameTells.l1 k x2 x3 x5 x7 x9 x10 (wrap64 (x11 + 1)))) else (none)) else (none)) else ((minstrellaw06_own.f x7).bind fun t122 => ((frame_First.f t122).bind fun bt125 => ((minstrellaw06_own.f x9).bind fun t130 => ((frame_First.f t130).bind fun bt133 => (if ((bt125.2.2 == 4) == ((strOfNums x7).toList != (strOfNums x5).toList)) = true then (if ((bt133.2.2 == 4) == ((strOfNums x9).toList != (strOfNums x5).toList)) = true then ((minstrellaw06_lives.f).bind fun t138 => (some t138)) else (some false)) else (some false))))))
end
def minstrellaw06_FrameTells.f (k : Nat) (l0 : List Int) (l1 : List Int) (l2 : List Int) (l3 : List Int) : Option (Bool) := (minstrellaw06_own.f l0).bind fun t103 => ((frame_Frame.f t103).bind fun bt106 => (if bt106.2 = 0 then (minstrellaw06_FrameTells.j0 k l1 l2 l3 bt106.1 (decide ((bt106.1.length : Int) < 8))) else (minstrellaw06_FrameTells.j0 k l1 l2 l3 bt106.1 true)))
theorem minstrellaw06_FrameTells.mono_l : ∀ k, (∀ y0 y1 y2 y3 y4, LeO (minstrellaw06_FrameTells.j0 k y0 y1 y2 y3 y4) (minstrellaw06_FrameTells.j0 (k + 1) y0 y1 y2 y3 y4)) ∧ (∀ y0 y1 y2 y3 y4 y5, LeO (minstrellaw06_FrameTells.l0 k y0 y1 y2 y3 y4 y5) (minstrellaw06_FrameTells.l0 (k + 1) y0 y1 y2 y3 y4 y5)) ∧ (∀ y0 y1 y2 y3 y4 y5 y6, LeO (minstrellaw06_FrameTells.l1 k y0 y1 y2 y3 y4 y5 y6) (minstrellaw06_FrameTells.l1 (k + 1) y0 y1 y2 y3 y4 y5 y6)) ∧ (∀ y0 y1 y2 y3 y4 y5 y6 y7, LeO (minstrellaw06_FrameTells.j3 k y0 y1 y2 y3 y4 y5 y6 y7) (minstrellaw06_FrameTells.j3 (k + 1) y0 y1 y2 y3 y4 y5 y6 y7))
  | 0 => ⟨fun _ _ _ _ _ r h => by simp [minstrellaw06_FrameTells.j0] at h, fun _ _ _ _ _ _ r h => by simp [minstrellaw06_FrameTells.l0] at h, fun _ _ _ _ _ _ _ r h => by simp [minstrellaw06_FrameTells.l1] at h, fun _ _ _ _ _ _ _ _ r h => by simp [minstrellaw06_FrameTells.j3] at h⟩
  | k + 1 => by
    obtain ⟨ih0, ih1, ih2, ih3⟩ := minstrellaw06_FrameTells.mono_l k
    refine ⟨?_, ?_, ?_, ?_⟩
    · intro y0 y1 y2 y3 y4
      unfold minstrellaw06_FrameTells.j0
      repeat' first
      | (with_reducible exact ih0 _ _ _ _ _)
      | (with_reducible exact ih1 _ _ _ _ _ _)
      | (with_reducible exact ih2 _ _ _ _ _ _ _)
      | (with_reducible exact ih3 _ _ _ _ _ _ _ _)
      | (with_reducible exact LeO.refl _)
      | (with_reducible exact LeO.none _)
      | (with_reducible refine LeO.ite ?_ ?_)
      | (with_reducible refine LeO.bind ?_ (fun _ => ?_))
      | exact ih0 _ _ _ _ _
      | exact ih1 _ _ _ _ _ _
      | exact ih2 _ _ _ _ _ _ _
      | exact ih3 _ _ _ _ _ _ _ _
      | exact LeO.none _
      | refine LeO.ite ?_ ?_
      | refine LeO.bind ?_ (fun _ => ?_)
    · intro y0 y1 y2 y3 y4 y5
      unfold minstrellaw06_FrameTells.l0
      repeat' first
      | (with_reducible exact ih0 _ _ _ _ _)
      | (with_reducible exact ih1 _ _ _ _ _ _)
      | (with_reducible exact ih2 _ _ _ _ _ _ _)
      | (with_reducible exact ih3 _ _ _ _ _ _ _ _)
      | (with_reducible exact LeO.refl _)
      | (with_reducible exact LeO.none _)
      | (with_reducible refine LeO.ite ?_ ?_)
      | (with_reducible refine LeO.bind ?_ (fun _ => ?_))
      | exact ih0 _ _ _ _ _
      | exact ih1 _ _ _ _ _ _
      | exact ih2 _ _ _ _ _ _ _
      | exact ih3 _ _ _ _ _ _ _ _
      | exact LeO.none _
      | refine LeO.ite ?_ ?_
      | refine LeO.bind ?_ (fun _ => ?_)
    · intro y0 y1 y2 y3 y4 y5 y6
      unfold minstrellaw06_FrameTells.l1
      repeat' first
      | (with_reducible exact ih0 _ _ _ _ _)
      | (with_reducible exact ih1 _ _ _ _ _ _)
      | (with_reducible exact ih2 _ _ _ _ _ _ _)
      | (with_reducible exact ih3 _ _ _ _ _ _ _ _)
      | (with_reducible exact LeO.refl _)
      | (with_reducible exact LeO.none _)
      | (with_reducible refine LeO.ite ?_ ?_)
      | (with_reducible refine LeO.bind ?_ (fun _ => ?_))
      | exact ih0 _ _ _ _ _
      | exact ih1 _ _ _ _ _ _
      | exact ih2 _ _ _ _ _ _ _
      | exact ih3 _ _ _ _ _ _ _ _
      | exact LeO.none _
      | refine LeO.ite ?_ ?_
      | refine LeO.bind ?_ (fun _ => ?_)
    · intro y0 y1 y2 y3 y4 y5 y6 y7
      unfold minstrellaw06_FrameTells.j3
      repeat' first
      | (with_reducible exact ih0 _ _ _ _ _)
      | (with_reducible exact ih1 _ _ _ _ _ _)
      | (with_reducible exact ih2 _ _ _ _ _ _ _)
      | (with_reducible exact ih3 _ _ _ _ _ _ _ _)
      | (with_reducible exact LeO.refl _)
      | (with_reducible exact LeO.none _)
      | (with_reducible refine LeO.ite ?_ ?_)
      | (with_reducible refine LeO.bind ?_ (fun _ => ?_))
      | exact ih0 _ _ _ _ _
      | exact ih1 _ _ _ _ _ _
      | exact ih2 _ _ _ _ _ _ _
      | exact ih3 _ _ _ _ _ _ _ _
      | exact LeO.none _
      | refine LeO.ite ?_ ?_
      | refine LeO.bind ?_ (fun _ => ?_)
theorem minstrellaw06_FrameTells.mono : ∀ a0 a1 a2 a3 k, LeO (minstrellaw06_FrameTells.f k a0 a1 a2 a3) (minstrellaw06_FrameTells.f (k + 1) a0 a1 a2 a3) := by
  intro a0 a1 a2 a3 k
  obtain ⟨ih0, ih1, ih2, ih3⟩ := minstrellaw06_FrameTells.mono_l k
  unfold minstrellaw06_FrameTells.f
  repeat' first
      | (with_reducible exact ih0 _ _ _ _ _)
      | (with_reducible exact ih1 _ _ _ _ _ _)
      | (with_reducible exact ih2 _ _ _ _ _ _ _)
      | (with_reducible exact ih3 _ _ _ _ _ _ _ _)
      | (with_reducible exact LeO.refl _)
      | (with_reducible exact LeO.none _)
      | (with_reducible refine LeO.ite ?_ ?_)
      | (with_reducible refine LeO.bind ?_ (fun _ => ?_))
      | exact ih0 _ _ _ _ _
      | exact ih1 _ _ _ _ _ _
      | exact ih2 _ _ _ _ _ _ _
      | exact ih3 _ _ _ _ _ _ _ _
      | exact LeO.none _
      | refine LeO.ite ?_ ?_
      | refine LeO.bind ?_ (fun _ => ?_)
theorem addr_add_off (b n : Nat) : (⟨b, 0, none⟩ : Addr).add n = ⟨b, n, none⟩ := by
  unfold Addr.add
  split
  · next h => rw [h]
  · simp
end Go.Proofs.YtjcaieecafggiaaDoor.Px
