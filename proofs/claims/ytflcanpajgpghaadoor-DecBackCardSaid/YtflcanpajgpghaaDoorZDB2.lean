/- A part of the proof of the law that RowDecBack shows: lemmas, and contracts of the calls that it reaches. -/
import Derived.Test.YtflcanpajgpghaaDoorProg
import Derived.Below
import Derived.Deep.Draws
import Derived.Deep.AppendLies
import Derived.Maps.AppendAt
import Derived.OwnWalk
import Derived.Laws.BytesArg
import Derived.Laws.MakeOwn
import Derived.Laws.OwnMore
import Derived.Deep.OwnRows
import Derived.Tactics
import Derived.Lib.ConvBytes
import Derived.Laws.Slices
import Derived.WalkKit
import Derived.KernelRfl
import Derived.RowKit3
import Derived.Deep.LoopGhost
import Derived.Deep.QuietTactic
import Derived.BigQuiet
import Derived.WideLaws
import Derived.Deep.DeepCutAuto
import Derived.Deep.CutBlock
import Derived.Deep.RegionHeld3
import Derived.Laws.Rows
import Derived.Lib.AppendStr
import Derived.ArgAppend
import Derived.Laws.IdiomCopy
import Derived.OrdersHeld
import Derived.Laws.BitsLemmas
import Derived.RowKit
import Derived.Test.YtflcanpajgpghaaDoorZDB0
import Derived.Test.YtflcanpajgpghaaDoorZDB1
import Derived.Lib.SliceRun
set_option linter.unusedVariables false
set_option linter.unusedSimpArgs false
section
namespace Go.Proofs.YtflcanpajgpghaaDoor.Pr
open Go.RowKit Go.Proofs.YtflcanpajgpghaaDoorW.PrintWords Go.Proofs.YtflcanpajgpghaaDoorW.PrintLast Go.Proofs.YtflcanpajgpghaaDoorW.PrintMore
attribute [local go_sem] max2_int min2_int max_two min_two max_three min_three max_four min_four
mutual
def dec_big_tens.l0 : Nat → List Int → Int → Option (List Int)
 | 0, _, _ => none
 | k + 1, x0, x1 => if x1 ≥ 9 then ((dec_big_times.f k x0 1000000000 0).bind fun t229 => (dec_big_tens.l0 k t229 (wrap64 (x1 - 9)))) else (dec_big_tens.l1 k x0 x1 0)
def dec_big_tens.l1 : Nat → List Int → Int → Int → Option (List Int)
 | 0, _, _, _ => none
 | k + 1, x0, x11, x12 => if x12 < x11 then ((dec_big_times.f k x0 10 0).bind fun t232 => (dec_big_tens.l1 k t232 x11 (wrap64 (x12 + 1)))) else (some x0)
end
def dec_big_tens.f (k : Nat) (l0 : List Int) (a1 : Int) : Option (List Int) := dec_big_tens.l0 k l0 a1
theorem dec_big_tens.mono_l : ∀ k, (∀ y0 y1, LeO (dec_big_tens.l0 k y0 y1) (dec_big_tens.l0 (k + 1) y0 y1)) ∧ (∀ y0 y1 y2, LeO (dec_big_tens.l1 k y0 y1 y2) (dec_big_tens.l1 (k + 1) y0 y1 y2))
 | 0 => ⟨fun _ _ r h => by simp [dec_big_tens.l0] at h, fun _ _ _ r h => by simp [dec_big_tens.l1] at h⟩
 | k + 1 => by
  obtain ⟨ih0, ih1⟩ := dec_big_tens.mono_l k
  refine ⟨?_, ?_⟩
  all_goals intros
  all_goals first | unfold dec_big_tens.l0 | unfold dec_big_tens.l1
  all_goals repeat' first
   | (with_reducible exact ih0 _ _)
   | (with_reducible exact ih1 _ _ _)
   | (with_reducible exact dec_big_times.mono _ _ _ _)
   | (with_reducible exact LeO.refl _)
   | (with_reducible exact LeO.none _)
   | (with_reducible refine LeO.ite ?_ ?_)
   | (with_reducible refine LeO.bind ?_ (fun _ => ?_))
   | exact ih0 _ _
   | exact ih1 _ _ _
   | exact dec_big_times.mono _ _ _ _
   | exact LeO.none _
   | refine LeO.ite ?_ ?_
   | refine LeO.bind ?_ (fun _ => ?_)
theorem dec_big_tens.mono : ∀ a0 a1 k, LeO (dec_big_tens.f k a0 a1) (dec_big_tens.f (k + 1) a0 a1) := by
 intro a0 a1 k
 obtain ⟨ih0, ih1⟩ := dec_big_tens.mono_l k
 unfold dec_big_tens.f
 repeat' first
   | (with_reducible exact ih0 _ _)
   | (with_reducible exact ih1 _ _ _)
   | (with_reducible exact dec_big_times.mono _ _ _ _)
   | (with_reducible exact LeO.refl _)
   | (with_reducible exact LeO.none _)
   | (with_reducible refine LeO.ite ?_ ?_)
   | (with_reducible refine LeO.bind ?_ (fun _ => ?_))
   | exact ih0 _ _
   | exact ih1 _ _ _
   | exact dec_big_times.mono _ _ _ _
   | exact LeO.none _
   | refine LeO.ite ?_ ?_
   | refine LeO.bind ?_ (fun _ => ?_)
set_option maxHeartbeats 8000000 in
set_option maxRecDepth 100000 in
theorem dec_big_tens.calls (k : Nat) (P0_ : Nat → Prop) (A0 : Option Addr) (c0 : Nat) (l0 : List Int) (a1 : Int) (r : List Int) (w : World) (hs0 : Kd.V (Kd.int .u32) 74 w w.heap.size (fun k_ => P0_ k_) (.slice A0 l0.length c0) l0) (h : dec_big_tens.f k l0 a1 = some r) :
  Calls Tryd.prog 37 #[.slice A0 l0.length c0, .int .i64 a1] w fun e w' => ∃ v0_ : Value, e = .returned (v0_) ∧ Kd.V (Kd.int .u32) 74 w' w.heap.size (fun k_ => (P0_ k_ ∨ w.heap.size ≤ k_)) v0_ r ∧ Below w.heap.size w w' := by
 have HO0 := am (show Kd.V (Kd.int .u32) 74 w w.heap.size (fun k_ => (P0_ k_ ∨ w.heap.size ≤ k_)) (.slice A0 l0.length c0) l0 from Kd.V_mono hs0 (fun k_ hk => .inl hk))
 have HB := am (Below.refl w.heap.size w)
 have H : (dec_big_tens.l0 k l0 a1) = some r := h
 clear h
 have H' := am H
 clear H
 go_enter Tryd.func37, Tryd.ntmps37
 go_wp2
 go_loopg [0, 1] k (fun kq v0 v1 w' => ∃ (x0_1 : List Int) (x1_1 : Int), v1 = .int .i64 x1_1 ∧ Aside0 (dec_big_tens.l0 kq x0_1 x1_1 = some r) ∧ Aside0 (kq ≤ k) ∧ Aside0 (Kd.V (Kd.int .u32) 74 w' w.heap.size (fun k_ => (P0_ k_ ∨ w.heap.size ≤ k_)) v0 x0_1) ∧ Aside0 (Below w.heap.size w w'))
 case atStart => exact ⟨(l0), (a1), (by first | rfl | (simp; done) | (simp [*]; done)), H', ⟨Nat.le_refl _⟩, ⟨by (with_reducible repeat (first | apply Kd.V_alloc | apply Kd.V_drewN | apply Kd.V_drew)); exact HO0.out⟩, ⟨pB⟩⟩
 case round =>
  clear H'
  try clear p2
  obtain ⟨x0_1, x1_1, rfl, HA, HK1, HO_0, HB⟩ := hrel
  cases gk with
  | zero => exact absurd HA.out (by simp [dec_big_tens.l0])
  | succ k1 =>
   have H := HA.out
   clear HA
   simp only [dec_big_tens.l0] at H
   by_cases c3 : x1_1 ≥ 9
   ·rw [if_pos c3] at H
    have c3b0 : decide (9 ≤ x1_1) = true := decide_eq_true c3
    clear c3
    replace H := Option.bind_eq_some_iff.mp H
    obtain ⟨t229, A40, H⟩ := H
    try dsimp only at H
    have A4 := am A40
    clear A40
    have H' := am H
    clear H
    obtain ⟨Ao5, co5, eo5⟩ := Kd.V_slice HO_0.out
    subst eo5
    go_wp2_with (first | ((with_reducible refine gate_callee (f := 38) rfl ?_); refine goesL_ (some 10) rfl rfl Tryd.func38 (by kernel_rfl) rfl #[.slice Ao5 x0_1.length co5, .int .u32 1000000000, .int .u32 0] rfl pM ?_; (with_reducible refine (dec_big_times.calls k1 _ _ x0_1 1000000000 0 t229 _ ?side1 ?side2 A4.out).mono ?_); (case side1 => repeat (first | exact (Kd.V_reads' HO_0.out).2.2 | (with_reducible refine Kd.C_alloc ?_ _) | (with_reducible refine Kd.C_drewN ?_ _) | (with_reducible refine Kd.C_drew ?_))); (case side2 => exact (Kd.V_reads' HO_0.out).2.1); rintro e w6 ⟨v230, rfl, ho0, hb⟩; refine ⟨_, rfl, ?_⟩; replace HO_0 := am (Kd.V_below (pV HO_0.out) hb); have HO231 := am (Kd.V_lower (Kd.V_mono (ok' := fun k_ => (P0_ k_ ∨ w.heap.size ≤ k_)) ho0 (fun k_ hk_ => (.inr (Nat.le_trans (below_size pB) hk_)))) (below_size pB)); replace HB := am (below_step pB hb); (try clear hb); (try clear ho0)))
    go_roundg k1
    case measure => have := HK1.out; omega
    case rel => exact ⟨(t229), (wrap64 (x1_1 - 9)), (by first | rfl | (simp; done) | (simp [*]; done)), H', ⟨by have := HK1.out; omega⟩, ⟨by (with_reducible repeat (first | apply Kd.V_alloc | apply Kd.V_drewN | apply Kd.V_drew)); exact HO231.out⟩, ⟨pB⟩⟩
   ·rw [if_neg c3] at H
    have c3b0 : decide (9 ≤ x1_1) = false := decide_eq_false c3
    clear c3
    have H' := am H
    clear H
    go_wp2
    go_loopg [0, 12] k1 (fun kq v0 v12 w' => ∃ (x0_2 : List Int) (x12_2 : Int), v12 = .int .i64 x12_2 ∧ Aside0 (dec_big_tens.l1 kq x0_2 x1_1 x12_2 = some r) ∧ Aside0 (kq ≤ k1) ∧ Aside0 (Kd.V (Kd.int .u32) 74 w' w.heap.size (fun k_ => (P0_ k_ ∨ w.heap.size ≤ k_)) v0 x0_2) ∧ Aside0 (Below w.heap.size w w'))
    case atStart => exact ⟨(x0_1), (0), (by first | rfl | (simp; done) | (simp [*]; done)), H', ⟨Nat.le_refl _⟩, ⟨by (with_reducible repeat (first | apply Kd.V_alloc | apply Kd.V_drewN | apply Kd.V_drew)); exact HO_0.out⟩, ⟨pB⟩⟩
    case round =>
     clear H'
     try clear p2
     try clear c3
     try clear c3b0
     try clear p6
     try clear p2
     obtain ⟨x0_2, x12_2, rfl, HA, HK2, HO_0, HB⟩ := hrel
     cases gk with
     | zero => exact absurd HA.out (by simp [dec_big_tens.l1])
     | succ k2 =>
      have H := HA.out
      clear HA
      simp only [dec_big_tens.l1] at H
      by_cases c7 : x12_2 < x1_1
      ·rw [if_pos c7] at H
       have c7b0 : decide (x12_2 < x1_1) = true := decide_eq_true c7
       clear c7
       replace H := Option.bind_eq_some_iff.mp H
       obtain ⟨t232, A80, H⟩ := H
       try dsimp only at H
       have A8 := am A80
       clear A80
       have H' := am H
       clear H
       obtain ⟨Ao9, co9, eo9⟩ := Kd.V_slice HO_0.out
       subst eo9
       go_wp2_with (first | ((with_reducible refine gate_callee (f := 38) rfl ?_); refine goesL_ (some 15) rfl rfl Tryd.func38 (by kernel_rfl) rfl #[.slice Ao9 x0_2.length co9, .int .u32 10, .int .u32 0] rfl pM ?_; (with_reducible refine (dec_big_times.calls k2 _ _ x0_2 10 0 t232 _ ?side1 ?side2 A8.out).mono ?_); (case side1 => repeat (first | exact (Kd.V_reads' HO_0.out).2.2 | (with_reducible refine Kd.C_alloc ?_ _) | (with_reducible refine Kd.C_drewN ?_ _) | (with_reducible refine Kd.C_drew ?_))); (case side2 => exact (Kd.V_reads' HO_0.out).2.1); rintro e w10 ⟨v233, rfl, ho0, hb⟩; refine ⟨_, rfl, ?_⟩; replace HO_0 := am (Kd.V_below (pV HO_0.out) hb); have HO234 := am (Kd.V_lower (Kd.V_mono (ok' := fun k_ => (P0_ k_ ∨ w.heap.size ≤ k_)) ho0 (fun k_ hk_ => (.inr (Nat.le_trans (below_size pB) hk_)))) (below_size pB)); replace HB := am (below_step pB hb); (try clear hb); (try clear ho0)))
       go_roundg k2
       case measure => have := HK1.out; have := HK2.out; omega
       case rel => exact ⟨(t232), (wrap64 (x12_2 + 1)), (by first | rfl | (simp; done) | (simp [*]; done)), H', ⟨by have := HK1.out; have := HK2.out; omega⟩, ⟨by (with_reducible repeat (first | apply Kd.V_alloc | apply Kd.V_drewN | apply Kd.V_drew)); exact HO234.out⟩, ⟨pB⟩⟩
      ·rw [if_neg c7] at H
       have c7b0 : decide (x12_2 < x1_1) = false := decide_eq_false c7
       clear c7
       obtain rfl := Option.some.inj H
       go_wp2
       go_ret
       exact ⟨_, pE, by (with_reducible repeat (first | apply Kd.V_alloc | apply Kd.V_drewN | apply Kd.V_drew)); exact HO_0.out, pB⟩
def dec_big_minus.l0 : Nat → List Int → List Int → Int → List Int → Int → Int → Option (List Int)
 | 0, _, _, _, _, _, _ => none
 | k + 1, x1, x5, x6, x14, x15, x16 => if x16 < x15 then (if 0 ≤ x16 then (if x16 < (x14.length : Int) then (if x16 < (x1.length : Int) then (if x5.length < 35184372088832 then (dec_big_minus.l0 k x1 (x5 ++ [(IntKind.u64.wrap ((IntKind.u64.wrap (rd x14 x16)) - (IntKind.u64.wrap (x6 + (IntKind.u64.wrap (rd x1 x16)))))) % 4294967296]) ((IntKind.u64.wrap ((IntKind.u64.wrap (rd x14 x16)) - (IntKind.u64.wrap (x6 + (IntKind.u64.wrap (rd x1 x16)))))) / 9223372036854775808) x14 x15 (wrap64 (x16 + 1))) else (none)) else (if x5.length < 35184372088832 then (dec_big_minus.l0 k x1 (x5 ++ [(IntKind.u64.wrap ((IntKind.u64.wrap (rd x14 x16)) - x6)) % 4294967296]) ((IntKind.u64.wrap ((IntKind.u64.wrap (rd x14 x16)) - x6)) / 9223372036854775808) x14 x15 (wrap64 (x16 + 1))) else (none))) else (none)) else (none)) else ((dec_big_trim.f k x5).bind fun t246 => (some t246))
def dec_big_minus.f (k : Nat) (l0 : List Int) (l1 : List Int) : Option (List Int) := if 0 ≤ (l0.length : Int) then (if ((l0.length : Int) : Int).toNat ≤ 70368744177664 then (dec_big_minus.l0 k l1 (List.replicate 0 0) 0 l0 (l0.length : Int) 0) else (none)) else (none)
theorem dec_big_minus.mono_l : ∀ k, (∀ y0 y1 y2 y3 y4 y5, LeO (dec_big_minus.l0 k y0 y1 y2 y3 y4 y5) (dec_big_minus.l0 (k + 1) y0 y1 y2 y3 y4 y5))
 | 0 => fun _ _ _ _ _ _ r h => by simp [dec_big_minus.l0] at h
 | k + 1 => by
  have ih0 := dec_big_minus.mono_l k
  ·intro y0 y1 y2 y3 y4 y5
   unfold dec_big_minus.l0
   repeat' first
   | (with_reducible exact ih0 _ _ _ _ _ _)
   | (with_reducible exact dec_big_trim.mono _ _)
   | (with_reducible exact LeO.refl _)
   | (with_reducible exact LeO.none _)
   | (with_reducible refine LeO.ite ?_ ?_)
   | (with_reducible refine LeO.bind ?_ (fun _ => ?_))
   | exact ih0 _ _ _ _ _ _
   | exact dec_big_trim.mono _ _
   | exact LeO.none _
   | refine LeO.ite ?_ ?_
   | refine LeO.bind ?_ (fun _ => ?_)
theorem dec_big_minus.mono : ∀ a0 a1 k, LeO (dec_big_minus.f k a0 a1) (dec_big_minus.f (k + 1) a0 a1) := by
 intro a0 a1 k
 have ih0 := dec_big_minus.mono_l k
 unfold dec_big_minus.f
 repeat' first
   | (with_reducible exact ih0 _ _ _ _ _ _)
   | (with_reducible exact dec_big_trim.mono _ _)
   | (with_reducible exact LeO.refl _)
   | (with_reducible exact LeO.none _)
   | (with_reducible refine LeO.ite ?_ ?_)
   | (with_reducible refine LeO.bind ?_ (fun _ => ?_))
   | exact ih0 _ _ _ _ _ _
   | exact dec_big_trim.mono _ _
   | exact LeO.none _
   | refine LeO.ite ?_ ?_
   | refine LeO.bind ?_ (fun _ => ?_)
set_option maxHeartbeats 8000000 in
set_option maxRecDepth 100000 in
theorem dec_big_minus.calls (k : Nat) (A0 : Option Addr) (c0 : Nat) (l0 : List Int) (A1 : Option Addr) (c1 : Nat) (l1 : List Int) (r : List Int) (w : World) (hr0 : Kd.C (Kd.int .u32) w A0 l0.length l0) (hc0 : l0.length ≤ c0) (hr1 : Kd.C (Kd.int .u32) w A1 l1.length l1) (hc1 : l1.length ≤ c1) (h : dec_big_minus.f k l0 l1 = some r) :
  Calls Tryd.prog 39 #[.slice A0 l0.length c0, .slice A1 l1.length c1] w fun e w' => ∃ v0_ : Value, e = .returned (v0_) ∧ Kd.V (Kd.int .u32) 74 w' w.heap.size (fun k_ => (w.heap.size ≤ k_)) v0_ r ∧ Below w.heap.size w w' := by
 have HR0 := am hr0
 have HC0 := am hc0
 clear hr0 hc0
 have HR1 := am hr1
 have HC1 := am hc1
 clear hr1 hc1
 have HB := am (Below.refl w.heap.size w)
 have H : (if 0 ≤ (l0.length : Int) then (if ((l0.length : Int) : Int).toNat ≤ 70368744177664 then (dec_big_minus.l0 k l1 (List.replicate 0 0) 0 l0 (l0.length : Int) 0) else (none)) else (none)) = some r := h
 clear h
 by_cases c3 : 0 ≤ (l0.length : Int)
 ·rw [if_pos c3] at H
  have c3b0 := eq_true c3
  have c3b1 : decide (0 ≤ (l0.length : Int)) = true := decide_eq_true c3
  clear c3
  by_cases c4 : ((l0.length : Int) : Int).toNat ≤ 70368744177664
  ·rw [if_pos c4] at H
   have c4b0 := eq_true c4
   have c4b1 : decide (((l0.length : Int) : Int).toNat ≤ 70368744177664) = true := decide_eq_true c4
   clear c4
   obtain ⟨y235, hy235⟩ : ∃ y_ : List Int, y_ = (List.replicate 0 0) := ⟨_, rfl⟩
   replace H : (dec_big_minus.l0 k l1 y235 0 l0 (l0.length : Int) 0) = some r := by first | (rw [hy235]; with_reducible exact H) | (have H2_ := (Option.bind_some _ _).symm.trans H; rw [hy235]; with_reducible exact H2_) | (have H2_ := (Option.bind_some _ _).symm.trans H; with_reducible exact H2_) | with_reducible exact H | (rw [hy235]; exact H) | exact H
   have Ny235 := am hy235
   clear hy235
   have H' := am H
   clear H
   go_enter Tryd.func39, Tryd.ntmps39
   go_wp2_with (first | ((with_reducible refine gate_dst (N := 13) rfl ?_); refine R_makeC (Kd.int .u32) _ 74 rfl (N := 13) rfl 64 _ _ rfl 0 (l0.length : Int) rfl rfl Tryd.underlying64 (.int .u32 0) 4 info74 rfl (by decide) (by omega) 0 (ok := fun _ => True) (okp := fun _ => True) rfl (fun _ hk => hk) trivial (by omega) pD (Nat.le_trans (Nat.mul_le_mul_right _ (pD : (l0.length : Int).toNat ≤ 70368744177664)) (by omega)) (Below.refl _ _) (Nat.le_refl _) ?_; intro v236 w5 ho6 hb hg_ hnew_; clear hg_ hnew_; (first | rw [← Ny235.out] at ho6 | (simp only [Int.reduceToNat] at ho6; rw [← Ny235.out] at ho6)); have HO237 := am (Kd.R_lower (Kd.R_newM (M := fun k_ => (w.heap.size ≤ k_)) ho6 (below_size pB) (fun k_ h_ => h_)) (below_size pB)); replace HB := am (below_step pB hb); clear hb ho6))
   go_loopg [5, 6, 16] k (fun kq v5 v6 v16 w' => ∃ (x5_1 : List Int) (x6_1 : Int) (x16_1 : Int), v6 = .int .u64 x6_1 ∧ v16 = .int .i64 x16_1 ∧ Aside0 (dec_big_minus.l0 kq l1 x5_1 x6_1 l0 (l0.length : Int) x16_1 = some r) ∧ Aside0 (kq ≤ k) ∧ Aside0 (Kd.R (Kd.int .u32) 74 w' w.heap.size (fun k_ => (w.heap.size ≤ k_)) v5 x5_1) ∧ Aside0 (Below w.heap.size w w'))
   case atStart => exact ⟨(y235), (0), (0), (by first | rfl | (simp; done) | (simp [*]; done)), (by first | rfl | (simp; done) | (simp [*]; done)), H', ⟨Nat.le_refl _⟩, ⟨by (with_reducible repeat (first | apply Kd.R_alloc | apply Kd.R_drewN | apply Kd.R_drew)); exact Kd.R_mono HO237.out (fun _ hk => hk.1)⟩, ⟨pB⟩⟩
   case round =>
    clear H'
    try clear c1
    try clear p2
    try clear c3
    try clear c3b0
    try clear c3b1
    try clear c4
    try clear c4b0
    try clear c4b1
    obtain ⟨x5_1, x6_1, x16_1, rfl, rfl, HA, HK1, HO_5, HB⟩ := hrel
    cases gk with
    | zero => exact absurd HA.out (by simp [dec_big_minus.l0])
    | succ k1 =>
     have H := HA.out
     clear HA
     simp only [dec_big_minus.l0] at H
     by_cases c7 : x16_1 < (l0.length : Int)
     ·rw [if_pos c7] at H
      have c7b0 : decide (x16_1 < (l0.length : Int)) = true := decide_eq_true c7
      clear c7
      by_cases c8 : 0 ≤ x16_1
      ·rw [if_pos c8] at H
       have c8b0 : decide (0 ≤ x16_1) = true := decide_eq_true c8
       clear c8
       by_cases c9 : x16_1 < (l0.length : Int)
       ·rw [if_pos c9] at H
        have c9b0 : decide (x16_1 < (l0.length : Int)) = true := decide_eq_true c9
        clear c9
        by_cases c10 : x16_1 < (l1.length : Int)
        ·rw [if_pos c10] at H
         have c10b0 : decide (x16_1 < (l1.length : Int)) = true := decide_eq_true c10
         clear c10
         by_cases c11 : x5_1.length < 35184372088832
         ·rw [if_pos c11] at H
          have LMc11 := am c11
          clear c11
          obtain ⟨y240, hy240⟩ : ∃ y_ : List Int, y_ = (x5_1 ++ [(IntKind.u64.wrap ((IntKind.u64.wrap (rd l0 x16_1)) - (IntKind.u64.wrap (x6_1 + (IntKind.u64.wrap (rd l1 x16_1)))))) % 4294967296]) := ⟨_, rfl⟩
          replace H : (dec_big_minus.l0 k1 l1 y240 ((IntKind.u64.wrap ((IntKind.u64.wrap (rd l0 x16_1)) - (IntKind.u64.wrap (x6_1 + (IntKind.u64.wrap (rd l1 x16_1)))))) / 9223372036854775808) l0 (l0.length : Int) (wrap64 (x16_1 + 1))) = some r := by first | (rw [hy240]; with_reducible exact H) | (have H2_ := (Option.bind_some _ _).symm.trans H; rw [hy240]; with_reducible exact H2_) | (have H2_ := (Option.bind_some _ _).symm.trans H; with_reducible exact H2_) | with_reducible exact H | (rw [hy240]; exact H) | exact H
          have Ny240 := am hy240
          clear hy240
          have H' := am H
          clear H
          have p238 : 0 ≤ (x16_1 : Int) := pD
          have q238 : x16_1 < (l0.length : Int) := pD
          obtain ⟨ad238, e238, hx238_0⟩ := Kd.at_int HR0.out x16_1 p238 q238
          cases e238
          replace hx238_0 := (HB.out.cell (World.block_lt_of_cell? w _ hx238_0)).trans hx238_0
          replace p238 := eq_true p238
          replace q238 := eq_true q238
          have p239 : 0 ≤ (x16_1 : Int) := pD
          have q239 : x16_1 < (l1.length : Int) := pD
          obtain ⟨ad239, e239, hx239_0⟩ := Kd.at_int HR1.out x16_1 p239 q239
          cases e239
          replace hx239_0 := (HB.out.cell (World.block_lt_of_cell? w _ hx239_0)).trans hx239_0
          replace p239 := eq_true p239
          replace q239 := eq_true q239
          go_wp2_with (first | ((with_reducible refine gate_builtin (b := .append) (xs := #[.tmp 37, .tmp 40]) rfl ?_); at_builtin; refine Kd.R_append (Kd.int .u32) (w0 := w) w.heap.size rfl (.tmp 37) (.tmp 40) 64 74 (.int .u32 0) 4 rfl Tryd.underlying64 info74 rfl (by decide) (by omega) u5 x5_1 ((IntKind.u64.wrap ((IntKind.u64.wrap (rd l0 x16_1)) - (IntKind.u64.wrap (x6_1 + (IntKind.u64.wrap (rd l1 x16_1)))))) % 4294967296) [.int .u32 ((IntKind.u64.wrap ((IntKind.u64.wrap (rd l0 x16_1)) - (IntKind.u64.wrap (x6_1 + (IntKind.u64.wrap (rd l1 x16_1)))))) % 4294967296)] (fun k_ => (w.heap.size ≤ k_)) (fun _ => False) rfl rfl ?aP (fun _ hk => hk.elim) ?aF ?aO ?aB ?aS ?aL ?_; (case aP => exact rfl); (case aB => exact pB); (case aF => exact (fun k_ hk => (Nat.le_trans (below_size pB) hk))); (case aO => exact (pR HO_5.out)); (case aS => exact (below_size pB)); (case aL => have := LMc11.out; omega); intro v241 w12 ho hb hg hat; rw [← Ny240.out] at ho; replace HB := am (hb); have HO242 := am (ho); clear HO_5; clear ho hb hg hat))
          go_roundg k1
          case measure => have := HK1.out; omega
          case rel => exact ⟨(y240), ((IntKind.u64.wrap ((IntKind.u64.wrap (rd l0 x16_1)) - (IntKind.u64.wrap (x6_1 + (IntKind.u64.wrap (rd l1 x16_1)))))) / 9223372036854775808), (wrap64 (x16_1 + 1)), (by first | rfl | (simp; done) | (simp [*]; done)), (by first | rfl | (simp; done) | (simp [*]; done)), H', ⟨by have := HK1.out; omega⟩, ⟨by (with_reducible repeat (first | apply Kd.R_alloc | apply Kd.R_drewN | apply Kd.R_drew)); exact HO242.out⟩, ⟨pB⟩⟩
         ·rw [if_neg c11] at H
          exact absurd H (by simp)
        ·rw [if_neg c10] at H
         have c10b0 : decide (x16_1 < (l1.length : Int)) = false := decide_eq_false c10
         clear c10
         by_cases c13 : x5_1.length < 35184372088832
         ·rw [if_pos c13] at H
          have LMc13 := am c13
          clear c13
          obtain ⟨y243, hy243⟩ : ∃ y_ : List Int, y_ = (x5_1 ++ [(IntKind.u64.wrap ((IntKind.u64.wrap (rd l0 x16_1)) - x6_1)) % 4294967296]) := ⟨_, rfl⟩
          replace H : (dec_big_minus.l0 k1 l1 y243 ((IntKind.u64.wrap ((IntKind.u64.wrap (rd l0 x16_1)) - x6_1)) / 9223372036854775808) l0 (l0.length : Int) (wrap64 (x16_1 + 1))) = some r := by first | (rw [hy243]; with_reducible exact H) | (have H2_ := (Option.bind_some _ _).symm.trans H; rw [hy243]; with_reducible exact H2_) | (have H2_ := (Option.bind_some _ _).symm.trans H; with_reducible exact H2_) | with_reducible exact H | (rw [hy243]; exact H) | exact H
          have Ny243 := am hy243
          clear hy243
          have H' := am H
          clear H
          have p238 : 0 ≤ (x16_1 : Int) := pD
          have q238 : x16_1 < (l0.length : Int) := pD
          obtain ⟨ad238, e238, hx238_0⟩ := Kd.at_int HR0.out x16_1 p238 q238
          cases e238
          replace hx238_0 := (HB.out.cell (World.block_lt_of_cell? w _ hx238_0)).trans hx238_0
          replace p238 := eq_true p238
          replace q238 := eq_true q238
          go_wp2_with (first | ((with_reducible refine gate_builtin (b := .append) (xs := #[.tmp 37, .tmp 40]) rfl ?_); at_builtin; refine Kd.R_append (Kd.int .u32) (w0 := w) w.heap.size rfl (.tmp 37) (.tmp 40) 64 74 (.int .u32 0) 4 rfl Tryd.underlying64 info74 rfl (by decide) (by omega) u5 x5_1 ((IntKind.u64.wrap ((IntKind.u64.wrap (rd l0 x16_1)) - x6_1)) % 4294967296) [.int .u32 ((IntKind.u64.wrap ((IntKind.u64.wrap (rd l0 x16_1)) - x6_1)) % 4294967296)] (fun k_ => (w.heap.size ≤ k_)) (fun _ => False) rfl rfl ?aP (fun _ hk => hk.elim) ?aF ?aO ?aB ?aS ?aL ?_; (case aP => exact rfl); (case aB => exact pB); (case aF => exact (fun k_ hk => (Nat.le_trans (below_size pB) hk))); (case aO => exact (pR HO_5.out)); (case aS => exact (below_size pB)); (case aL => have := LMc13.out; omega); intro v244 w14 ho hb hg hat; rw [← Ny243.out] at ho; replace HB := am (hb); have HO245 := am (ho); clear HO_5; clear ho hb hg hat))
          go_roundg k1
          case measure => have := HK1.out; omega
          case rel => exact ⟨(y243), ((IntKind.u64.wrap ((IntKind.u64.wrap (rd l0 x16_1)) - x6_1)) / 9223372036854775808), (wrap64 (x16_1 + 1)), (by first | rfl | (simp; done) | (simp [*]; done)), (by first | rfl | (simp; done) | (simp [*]; done)), H', ⟨by have := HK1.out; omega⟩, ⟨by (with_reducible repeat (first | apply Kd.R_alloc | apply Kd.R_drewN | apply Kd.R_drew)); exact HO245.out⟩, ⟨pB⟩⟩
         ·rw [if_neg c13] at H
          exact absurd H (by simp)
       ·rw [if_neg c9] at H
        exact absurd H (by simp)
      ·rw [if_neg c8] at H
       exact absurd H (by simp)
     ·rw [if_neg c7] at H
      have c7b0 : decide (x16_1 < (l0.length : Int)) = false := decide_eq_false c7
      clear c7
      replace H := Option.bind_eq_some_iff.mp H
      obtain ⟨t246, A150, H⟩ := H
      try dsimp only at H
      have A15 := am A150
      clear A150
      obtain rfl := Option.some.inj H
      obtain ⟨Ao16, co16, eo16⟩ := Kd.R_slice HO_5.out
      subst eo16
      go_wp2_with (first | ((with_reducible refine gate_callee (f := 64) rfl ?_); refine goesL_ (some 46) rfl rfl Tryd.func64 (by kernel_rfl) rfl #[.slice Ao16 x5_1.length co16] rfl pM ?_; (with_reducible refine (dec_big_trim.calls k1 (fun k_ => some k_ = (.slice Ao16 x5_1.length co16 : Value).ownBlock) _ _ x5_1 t246 _ ?side1 A15.out).mono ?_); (case side1 => exact Kd.R_V (Kd.R_tight rfl (HO_5.out))); rintro e w17 ⟨v247, rfl, ho0, hb⟩; refine ⟨_, rfl, ?_⟩; have HO248 := am (Kd.V_lower (Kd.V_mono (ok' := fun k_ => (w.heap.size ≤ k_)) ho0 (fun k_ hk_ => Or.elim hk_ (fun hs_ => ((HO_5.out).1 k_ hs_.symm)) (fun hn_ => (Nat.le_trans (below_size pB) hn_)))) (below_size pB)); replace HO_5 := am (Kd.R_below (pR HO_5.out) hb); replace HB := am (below_step pB hb); (try clear hb); (try clear ho0)))
      go_ret
      exact ⟨_, pE, by (with_reducible repeat (first | apply Kd.V_alloc | apply Kd.V_drewN | apply Kd.V_drew)); exact HO248.out, pB⟩
  ·rw [if_neg c4] at H
   exact absurd H (by simp)
 ·rw [if_neg c3] at H
  exact absurd H (by simp)
mutual
def dec_tidy.l0 : Nat → List Int → Int → Int → Option (ByteArray × Int)
 | 0, _, _, _ => none
 | k + 1, x0, x1, x6 => if x6 ≥ 0 then (if 0 ≤ x6 then (if x6 < (x0.length : Int) then (dec_tidy.j1 k x0 x1 x6 (decide ((rd x0 x6) > 57))) else (none)) else (none)) else (dec_tidy.j1 k x0 x1 x6 false)
def dec_tidy.j1 : Nat → List Int → Int → Int → Bool → Option (ByteArray × Int)
 | 0, _, _, _, _ => none
 | k + 1, x0, x1, x6, x18 => if x18 = true then (if 0 ≤ x6 then (if x6 < (x0.length : Int) then ((some (x0.set (x6 : Int).toNat 48 : List Int)).bind fun y250 => (if x6 > 0 then (if 0 ≤ (wrap64 (x6 - 1)) then (if (wrap64 (x6 - 1)) < (x0.length : Int) then (dec_tidy.l0 k (y250.set ((wrap64 (x6 - 1)) : Int).toNat (((rd y250 (wrap64 (x6 - 1))) + 1) % 256)) x1 (wrap64 (x6 - 1))) else (none)) else (none)) else ((some (([49] : List Int) : List Int)).bind fun y253 => (if y253.length + y250.length < 140737488355328 then (dec_tidy.l0 k (y253 ++ y250) (wrap64 (x1 + 1)) (wrap64 (x6 - 1))) else (none))))) else (none)) else (none)) else ((strings_TrimRight.f (strOfNums x0) (⟨#[48]⟩ : ByteArray)).bind fun t259 => (some (t259, x1)))
end
def dec_tidy.f (k : Nat) (l0 : List Int) (a1 : Int) : Option (ByteArray × Int) := dec_tidy.l0 k l0 a1 (wrap64 ((l0.length : Int) - 1))
theorem dec_tidy.mono_l : ∀ k, (∀ y0 y1 y2, LeO (dec_tidy.l0 k y0 y1 y2) (dec_tidy.l0 (k + 1) y0 y1 y2)) ∧ (∀ y0 y1 y2 y3, LeO (dec_tidy.j1 k y0 y1 y2 y3) (dec_tidy.j1 (k + 1) y0 y1 y2 y3))
 | 0 => ⟨fun _ _ _ r h => by simp [dec_tidy.l0] at h, fun _ _ _ _ r h => by simp [dec_tidy.j1] at h⟩
 | k + 1 => by
  obtain ⟨ih0, ih1⟩ := dec_tidy.mono_l k
  refine ⟨?_, ?_⟩
  all_goals intros
  all_goals first | unfold dec_tidy.l0 | unfold dec_tidy.j1
  all_goals repeat' first
   | (with_reducible exact ih0 _ _ _)
   | (with_reducible exact ih1 _ _ _ _)
   | (with_reducible exact LeO.refl _)
   | (with_reducible exact LeO.none _)
   | (with_reducible refine LeO.ite ?_ ?_)
   | (with_reducible refine LeO.bind ?_ (fun _ => ?_))
   | exact ih0 _ _ _
   | exact ih1 _ _ _ _
   | exact LeO.none _
   | refine LeO.ite ?_ ?_
   | refine LeO.bind ?_ (fun _ => ?_)
theorem dec_tidy.mono : ∀ a0 a1 k, LeO (dec_tidy.f k a0 a1) (dec_tidy.f (k + 1) a0 a1) := by
 intro a0 a1 k
 obtain ⟨ih0, ih1⟩ := dec_tidy.mono_l k
 unfold dec_tidy.f
 repeat' first
   | (with_reducible exact ih0 _ _ _)
   | (with_reducible exact ih1 _ _ _ _)
   | (with_reducible exact LeO.refl _)
   | (with_reducible exact LeO.none _)
   | (with_reducible refine LeO.ite ?_ ?_)
   | (with_reducible refine LeO.bind ?_ (fun _ => ?_))
   | exact ih0 _ _ _
   | exact ih1 _ _ _ _
   | exact LeO.none _
   | refine LeO.ite ?_ ?_
   | refine LeO.bind ?_ (fun _ => ?_)
set_option maxHeartbeats 8000000 in
set_option maxRecDepth 100000 in
theorem dec_tidy.calls (k : Nat) (P0_ : Nat → Prop) (u9000_ : Value) (l0 : List Int) (a1 : Int) (r1 : ByteArray) (r2 : Int) (w0 w : World) (hB : Below w0.heap.size w0 w) (ho0 : Kd.R (Kd.int .u8) 5 w w0.heap.size P0_ u9000_ l0) (h : dec_tidy.f k l0 a1 = some (r1, r2)) :
  Calls Tryd.prog 41 #[u9000_, .int .i64 a1] w fun e w' => e = .returned (.tuple #[.string r1, .int .i64 r2]) ∧ Below w0.heap.size w0 w' ∧ Kept w w' (fun k_ => P0_ k_) := by
 have HO0 := am (show Kd.R (Kd.int .u8) 5 w w0.heap.size (fun k_ => (P0_ k_ ∨ w.heap.size ≤ k_)) u9000_ l0 from Kd.R_mono ho0 (fun k_ hk => (.inl hk)))
 have HK := am (Kept.refl w (fun k_ => P0_ k_))
 have HW0 := am hB.size
 have HB := am hB
 clear hB
 have H : (dec_tidy.l0 k l0 a1 (wrap64 ((l0.length : Int) - 1))) = some (r1, r2) := h
 clear h
 have H' := am H
 clear H
 obtain ⟨Ao3, co3, eo3⟩ := Kd.R_slice HO0.out
 subst eo3
 go_enter Tryd.func41, Tryd.ntmps41
 go_wp2
 go_loopg [0, 1, 6] k (fun kq v0 v1 v6 w' => ∃ (x0_1 : List Int) (x1_1 : Int) (x6_1 : Int), v1 = .int .i64 x1_1 ∧ v6 = .int .i64 x6_1 ∧ Aside0 (dec_tidy.l0 kq x0_1 x1_1 x6_1 = some (r1, r2)) ∧ Aside0 (kq ≤ k) ∧ Aside0 (Kd.R (Kd.int .u8) 5 w' w0.heap.size (fun k_ => (P0_ k_ ∨ w.heap.size ≤ k_)) v0 x0_1) ∧ Aside0 (Kept w w' (fun k_ => P0_ k_)) ∧ Aside0 (Below w0.heap.size w0 w'))
 case atStart => exact ⟨(l0), (a1), (wrap64 ((l0.length : Int) - 1)), (by first | rfl | (simp; done) | (simp [*]; done)), (by first | rfl | (simp; done) | (simp [*]; done)), H', ⟨Nat.le_refl _⟩, ⟨by (with_reducible repeat (first | apply Kd.R_alloc | apply Kd.R_drewN | apply Kd.R_drew)); exact HO0.out⟩, ⟨by repeat (first | (with_reducible first | exact HK.out | apply Kept.alloc | apply Kept.drewN | apply Kept.drew) | exact HK.out)⟩, ⟨pB⟩⟩
 case round =>
  clear H'
  try clear p2
  obtain ⟨x0_1, x1_1, x6_1, rfl, rfl, HA, HK1, HO_0, HK, HB⟩ := hrel
  cases gk with
  | zero => exact absurd HA.out (by simp [dec_tidy.l0])
  | succ k1 =>
   have H := HA.out
   clear HA
   simp only [dec_tidy.l0] at H
   have HC4 := am H
   clear H
   go_upto_region 2 with (fail)
   go_cut [18] (fun v18 wc => ∃ (kq : Nat) (x18_3 : Bool), v18 = .bool x18_3 ∧ Aside0 (dec_tidy.j1 kq x0_1 x1_1 x6_1 x18_3 = some (r1, r2)) ∧ Aside0 (kq ≤ k1) ∧ Aside0 (Kd.R (Kd.int .u8) 5 wc w0.heap.size (fun k_ => (P0_ k_ ∨ w.heap.size ≤ k_)) u0 x0_1) ∧ Aside0 (Kept w wc (fun k_ => P0_ k_)) ∧ Aside0 (Below w0.heap.size w0 wc))
   case first =>
    have H := HC4.out
    clear HC4
    by_cases c5 : x6_1 ≥ 0
    ·rw [if_pos c5] at H
     have c5b0 : decide (0 ≤ x6_1) = true := decide_eq_true c5
     clear c5
     (first | rw [c5b0] | (simp only [i64_w, i32_w]; rw [c5b0]) | rw [c5b1] | (simp only [i64_w, i32_w]; rw [c5b1]) | skip)
     by_cases c6 : 0 ≤ x6_1
     ·rw [if_pos c6] at H
      have c6b0 : decide (0 ≤ x6_1) = true := decide_eq_true c6
      clear c6
      by_cases c7 : x6_1 < (x0_1.length : Int)
      ·rw [if_pos c7] at H
       have c7b0 : decide (x6_1 < (x0_1.length : Int)) = true := decide_eq_true c7
       clear c7
       have H' := am H
       clear H
       obtain ⟨Ao8, co8, eo8⟩ := Kd.R_slice HO_0.out
       subst eo8
       have p249 : 0 ≤ (x6_1 : Int) := pD
       have q249 : x6_1 < (x0_1.length : Int) := pD
       obtain ⟨ad249, e249, hx249_0⟩ := Kd.at_int (Kd.R_reads' HO_0.out).2.2 x6_1 p249 q249
       cases e249
       replace p249 := eq_true p249
       replace q249 := eq_true q249
       go_wp2
       go_meet
       case rel => exact ⟨_, (decide ((rd x0_1 x6_1) > 57)), (by first | rfl | (simp; done) | (simp [*]; done)), H', ⟨by have := HK1.out; first | omega | exact Nat.le_refl _⟩, ⟨by (with_reducible repeat (first | apply Kd.R_alloc | apply Kd.R_drewN | apply Kd.R_drew)); exact HO_0.out⟩, ⟨by repeat (first | (with_reducible first | exact HK.out | apply Kept.alloc | apply Kept.drewN | apply Kept.drew) | exact HK.out)⟩, ⟨pB⟩⟩
      ·rw [if_neg c7] at H
       exact absurd H (by simp)
     ·rw [if_neg c6] at H
      exact absurd H (by simp)
    ·rw [if_neg c5] at H
     have c5b0 : decide (0 ≤ x6_1) = false := decide_eq_false c5
     clear c5
     (first | rw [c5b0] | (simp only [i64_w, i32_w]; rw [c5b0]) | rw [c5b1] | (simp only [i64_w, i32_w]; rw [c5b1]) | skip)
     have H' := am H
     clear H
     go_wp2
     go_meet
     case rel => exact ⟨_, (false), (by first | rfl | (simp; done) | (simp [*]; done)), H', ⟨by have := HK1.out; first | omega | exact Nat.le_refl _⟩, ⟨by (with_reducible repeat (first | apply Kd.R_alloc | apply Kd.R_drewN | apply Kd.R_drew)); exact HO_0.out⟩, ⟨by repeat (first | (with_reducible first | exact HK.out | apply Kept.alloc | apply Kept.drewN | apply Kept.drew) | exact HK.out)⟩, ⟨pB⟩⟩
   case rest =>
    clear HC4
    try clear p2
    try clear q2
    try clear hx2
    try clear c4
    try clear c5
    try clear c5b0
    try clear c5b1
    try clear c6
    try clear c6b0
    try clear p6
    try clear c7
    try clear c7b0
    try clear hx249_0
    try clear p2
    try clear p249
    try clear q249
    obtain ⟨kq, x18_3, rfl, HA, HJ3, HO_0, HK, HB⟩ := hcut
    cases kq with
    | zero => exact absurd HA.out (by simp [dec_tidy.j1])
    | succ kj3 =>
     have H := HA.out
     clear HA
     simp only [dec_tidy.j1] at H
     by_cases c9 : x18_3 = true
     ·subst c9
      rw [if_pos rfl] at H
      by_cases c10 : 0 ≤ x6_1
      ·rw [if_pos c10] at H
       have c10b0 : decide (0 ≤ x6_1) = true := decide_eq_true c10
       clear c10
       by_cases c11 : x6_1 < (x0_1.length : Int)
       ·rw [if_pos c11] at H
        have c11b0 : decide (x6_1 < (x0_1.length : Int)) = true := decide_eq_true c11
        clear c11
        obtain ⟨y250, hy250⟩ : ∃ y_ : List Int, y_ = (x0_1.set (x6_1 : Int).toNat 48) := ⟨_, rfl⟩
        replace H : (if x6_1 > 0 then (if 0 ≤ (wrap64 (x6_1 - 1)) then (if (wrap64 (x6_1 - 1)) < (x0_1.length : Int) then (dec_tidy.l0 kj3 (y250.set ((wrap64 (x6_1 - 1)) : Int).toNat (((rd y250 (wrap64 (x6_1 - 1))) + 1) % 256)) x1_1 (wrap64 (x6_1 - 1))) else (none)) else (none)) else ((some (([49] : List Int) : List Int)).bind fun y253 => (if y253.length + y250.length < 140737488355328 then (dec_tidy.l0 kj3 (y253 ++ y250) (wrap64 (x1_1 + 1)) (wrap64 (x6_1 - 1))) else (none)))) = some (r1, r2) := by first | (rw [hy250]; with_reducible exact H) | (have H2_ := (Option.bind_some _ _).symm.trans H; rw [hy250]; with_reducible exact H2_) | (have H2_ := (Option.bind_some _ _).symm.trans H; with_reducible exact H2_) | with_reducible exact H | (rw [hy250]; exact H) | exact H
        have Ny250 := am hy250
        clear hy250
        by_cases c13 : x6_1 > 0
        ·rw [if_pos c13] at H
         have c13b0 : decide (0 < x6_1) = true := decide_eq_true c13
         clear c13
         obtain ⟨ji14, hji14⟩ : ∃ j_ : Int, (wrap64 (x6_1 - 1)) = j_ := ⟨_, rfl⟩
         replace H : (if 0 ≤ (ji14) then (if (ji14) < (x0_1.length : Int) then (dec_tidy.l0 kj3 (y250.set ((ji14) : Int).toNat (((rd y250 (ji14)) + 1) % 256)) x1_1 ji14) else (none)) else (none)) = some (r1, r2) := by first | (rw [hji14] at H; exact H) | (simp only [hji14] at H ⊢; exact H)
         have hji14w : (IntKind.i64.wrap (x6_1 - 1)) = ji14 := (i64_w _).trans hji14
         by_cases c15 : 0 ≤ (ji14)
         ·rw [if_pos c15] at H
          have c15b0 : decide (0 ≤ (ji14)) = true := decide_eq_true c15
          clear c15
          by_cases c16 : (ji14) < (x0_1.length : Int)
          ·rw [if_pos c16] at H
           have c16b0 : decide ((ji14) < (x0_1.length : Int)) = true := decide_eq_true c16
           clear c16
           obtain ⟨y252, hy252⟩ : ∃ y_ : List Int, y_ = (y250.set ((ji14) : Int).toNat (((rd y250 (ji14)) + 1) % 256)) := ⟨_, rfl⟩
           replace H : (dec_tidy.l0 kj3 y252 x1_1 ji14) = some (r1, r2) := by first | (rw [hy252]; with_reducible exact H) | (have H2_ := (Option.bind_some _ _).symm.trans H; rw [hy252]; with_reducible exact H2_) | (have H2_ := (Option.bind_some _ _).symm.trans H; with_reducible exact H2_) | with_reducible exact H | (rw [hy252]; exact H) | exact H
           have Ny252 := am hy252
           clear hy252
           have H' := am H
           clear H
           have p12 : 0 ≤ (x6_1 : Int) := pD
           have q12 : (x6_1 : Int) < ((x0_1.length : Int) : Int) := pD
           obtain ⟨go12, co12, eo12, gb12, gl12, cl12, HG12⟩ := Kd.R_form HO_0.out (by omega)
           (first | cases eo12 | (injection eo12 with ea_ en_ ec_; (first | subst ea_ | (injection ea_ with ea_; subst ea_)); subst ec_; clear en_))
           have GB12 := am gb12
           have GG12 := am HG12
           clear gb12 gl12 HG12
           have HMgo12 := am (show (P0_ go12 ∨ w.heap.size ≤ go12) from (HO_0.out.1 _ rfl))
           obtain ⟨hx12_0, hf12_0⟩ := Kd.R_celln 0 HO_0.out (x6_1 : Int) p12 q12
           replace p12 := eq_true p12
           replace q12 := eq_true q12
           have HP18 := Kd.R_putg HO_0.out (x6_1 : Int) 48
           go_wp2_with (first | ((with_reducible refine gate_store (t := 5) (p := 23) rfl ?_); refine store_event (t := 5) (p := 23) (v := ?vo_w19) (w1 := (wc.setCell ⟨go12, (x6_1 : Int).toNat, none⟩ (.int .u8 48))) ?hg ?ho ?hn ?hr ?_; (case ho => rfl); (case hg => rfl); (case hn => rfl); (case hr => first | (go_simp; done) | (go_simp; rfl)); intro w19 hw; have hg : wc.grownBy w19 (some go12) := (by rw [hw]; exact HP18.2); have hp_ : Kd.R (Kd.int .u8) 5 w19 w0.heap.size (fun k_ => (P0_ k_ ∨ w.heap.size ≤ k_)) (.slice (some ⟨go12, 0, none⟩) x0_1.length co12) y250 := (by rw [hw, Ny250.out]; exact HP18.1); clear HP18; replace HB := am ((by rw [hw]; exact below_set (HB.out) GB12.out : Below w0.heap.size w0 w19)); replace HK := am (Kept.of_grown (S := (fun k_ => P0_ k_)) hg (by repeat (first | (with_reducible first | exact HK.out | apply Kept.alloc | apply Kept.drewN | apply Kept.drew) | exact HK.out)) (fun k_ e_ => (HO_0.out.1 k_ e_))); replace HO_0 := am (hp_); clear hg hw hp_; have p251 : 0 ≤ ((ji14) : Int) := pD; have q251 : (ji14) < (y250.length : Int) := (by have h_ : ((ji14) : Int) < ((x0_1.length : Int) : Int) := pD; first | (have e_ := (Kd.R_reads' HO_0.out).1; omega) | simpa only [Ny250.out, List.length_set] using h_); have ql251 : (((ji14) : Int) < ((x0_1.length : Int) : Int)) = True := eq_true pD; obtain ⟨ad251, e251, hx251_0⟩ := Kd.at_int (Kd.R_reads' HO_0.out).2.2 (ji14) p251 q251; obtain rfl : (⟨go12, 0, none⟩ : Addr) = ad251 := (by injection e251); (first | simp only [add_plain] at hx251_0 | simp only [add_at] at hx251_0 | simp only [Addr.add, Nat.zero_add] at hx251_0 | skip); replace p251 := eq_true p251; replace q251 := eq_true q251; have p17 : 0 ≤ ((ji14) : Int) := pD; have q17 : ((ji14) : Int) < ((x0_1.length : Int) : Int) := pD; obtain ⟨hx17_0, hf17_0⟩ := Kd.R_celln 0 HO_0.out ((ji14) : Int) p17 q17; replace p17 := eq_true p17; replace q17 := eq_true q17; obtain ⟨hy20_, hz20_⟩ := Kd.R_celln 0 HO_0.out ((ji14) : Int) pD pD; have HP20 := Kd.R_putg HO_0.out ((ji14) : Int) (((rd y250 (ji14)) + 1) % 256)) | ((with_reducible refine gate_store (t := 5) (p := 32) rfl ?_); refine store_event (t := 5) (p := 32) (v := ?vo_w21) (w1 := (w19.setCell ⟨go12, ((ji14) : Int).toNat, none⟩ (.int .u8 (((rd y250 (ji14)) + 1) % 256)))) ?hg ?ho ?hn ?hr ?_; (case ho => rfl); (case hg => rfl); (case hn => rfl); (case hr => first | (go_simp; done) | (go_simp; rfl)); intro w21 hw; have hg : w19.grownBy w21 (some go12) := (by rw [hw]; exact HP20.2); have hp_ : Kd.R (Kd.int .u8) 5 w21 w0.heap.size (fun k_ => (P0_ k_ ∨ w.heap.size ≤ k_)) (.slice (some ⟨go12, 0, none⟩) x0_1.length co12) y252 := (by rw [hw, Ny252.out]; exact HP20.1); clear HP20; replace HB := am ((by rw [hw]; exact below_set (HB.out) GB12.out : Below w0.heap.size w0 w21)); replace HK := am (Kept.of_grown (S := (fun k_ => P0_ k_)) hg (by repeat (first | (with_reducible first | exact HK.out | apply Kept.alloc | apply Kept.drewN | apply Kept.drew) | exact HK.out)) (fun k_ e_ => (HO_0.out.1 k_ e_))); replace HO_0 := am (hp_); clear hg hw hp_))
           go_roundg kj3
           case measure => have := HK1.out; have := HJ3.out; omega
           case rel => exact ⟨(y252), (x1_1), (ji14), (by first | rfl | (simp; done) | (simp [*]; done)), (by first | rfl | (simp; done) | (simp only [← hji14] <;> (first | rfl | simp)) | (simp [*]; done)), H', ⟨by have := HK1.out; have := HJ3.out; omega⟩, ⟨by (with_reducible repeat (first | apply Kd.R_alloc | apply Kd.R_drewN | apply Kd.R_drew)); exact HO_0.out⟩, ⟨by repeat (first | (with_reducible first | exact HK.out | apply Kept.alloc | apply Kept.drewN | apply Kept.drew) | exact HK.out)⟩, ⟨pB⟩⟩
          ·rw [if_neg c16] at H
           exact absurd H (by simp)
         ·rw [if_neg c15] at H
          exact absurd H (by simp)
        ·rw [if_neg c13] at H
         have c13b0 : decide (0 < x6_1) = false := decide_eq_false c13
         clear c13
         obtain ⟨y253, hy253⟩ : ∃ y_ : List Int, y_ = (([49] : List Int)) := ⟨_, rfl⟩
         replace H : (if y253.length + y250.length < 140737488355328 then (dec_tidy.l0 kj3 (y253 ++ y250) (wrap64 (x1_1 + 1)) (wrap64 (x6_1 - 1))) else (none)) = some (r1, r2) := by first | (rw [hy253]; with_reducible exact H) | (have H2_ := (Option.bind_some _ _).symm.trans H; rw [hy253]; with_reducible exact H2_) | (have H2_ := (Option.bind_some _ _).symm.trans H; with_reducible exact H2_) | with_reducible exact H | (rw [hy253]; exact H) | exact H
         have Ny253 := am hy253
         clear hy253
         by_cases c22 : y253.length + y250.length < 140737488355328
         ·rw [if_pos c22] at H
          have LMc22 := am c22
          clear c22
          obtain ⟨y256, hy256⟩ : ∃ y_ : List Int, y_ = (y253 ++ y250) := ⟨_, rfl⟩
          replace H : (dec_tidy.l0 kj3 y256 (wrap64 (x1_1 + 1)) (wrap64 (x6_1 - 1))) = some (r1, r2) := by first | (rw [hy256]; with_reducible exact H) | (have H2_ := (Option.bind_some _ _).symm.trans H; rw [hy256]; with_reducible exact H2_) | (have H2_ := (Option.bind_some _ _).symm.trans H; with_reducible exact H2_) | with_reducible exact H | (rw [hy256]; exact H) | exact H
          have Ny256 := am hy256
          clear hy256
          have H' := am H
          clear H
          have p12 : 0 ≤ (x6_1 : Int) := pD
          have q12 : (x6_1 : Int) < ((x0_1.length : Int) : Int) := pD
          obtain ⟨go12, co12, eo12, gb12, gl12, cl12, HG12⟩ := Kd.R_form HO_0.out (by omega)
          (first | cases eo12 | (injection eo12 with ea_ en_ ec_; (first | subst ea_ | (injection ea_ with ea_; subst ea_)); subst ec_; clear en_))
          have GB12 := am gb12
          have GG12 := am HG12
          clear gb12 gl12 HG12
          have HMgo12 := am (show (P0_ go12 ∨ w.heap.size ≤ go12) from (HO_0.out.1 _ rfl))
          obtain ⟨hx12_0, hf12_0⟩ := Kd.R_celln 0 HO_0.out (x6_1 : Int) p12 q12
          replace p12 := eq_true p12
          replace q12 := eq_true q12
          have HP23 := Kd.R_putg HO_0.out (x6_1 : Int) 48
          go_wp2_with (first | ((with_reducible refine gate_store (t := 5) (p := 23) rfl ?_); refine store_event (t := 5) (p := 23) (v := ?vo_w24) (w1 := (wc.setCell ⟨go12, (x6_1 : Int).toNat, none⟩ (.int .u8 48))) ?hg ?ho ?hn ?hr ?_; (case ho => rfl); (case hg => rfl); (case hn => rfl); (case hr => first | (go_simp; done) | (go_simp; rfl)); intro w24 hw; have hg : wc.grownBy w24 (some go12) := (by rw [hw]; exact HP23.2); have hp_ : Kd.R (Kd.int .u8) 5 w24 w0.heap.size (fun k_ => (P0_ k_ ∨ w.heap.size ≤ k_)) (.slice (some ⟨go12, 0, none⟩) x0_1.length co12) y250 := (by rw [hw, Ny250.out]; exact HP23.1); clear HP23; replace HB := am ((by rw [hw]; exact below_set (HB.out) GB12.out : Below w0.heap.size w0 w24)); replace HK := am (Kept.of_grown (S := (fun k_ => P0_ k_)) hg (by repeat (first | (with_reducible first | exact HK.out | apply Kept.alloc | apply Kept.drewN | apply Kept.drew) | exact HK.out)) (fun k_ e_ => (HO_0.out.1 k_ e_))); replace HO_0 := am (hp_); clear hg hw hp_) | ((with_reducible refine gate_dst (N := 33) rfl ?_); refine Kd.R_lit (Kd.int .u8) _ 5 ?hg (N := 33) ?hd (xs := ([49] : List Int)) (inner := [.int .u8 49]) (ok := fun _ => True) (okp := fun _ => True) ?hr ?hp (fun _ hk => hk) trivial (Below.refl _ _) (Nat.le_refl _) (by simp) ?_; (case hd => rfl); (case hg => rfl); (case hr => first | (go_simp; done) | (go_simp; rfl)); (case hp => exact (Reps.one (show Kd.M (Kd.int .u8) _ _ _ 49 [.int .u8 49] from rfl) (Reps.none _ _))); intro v254 w25 ho26 hb hg_ hnew_; clear hg_ hnew_; (first | rw [← Ny253.out] at ho26 | (simp only [Int.reduceToNat] at ho26; rw [← Ny253.out] at ho26)); have HO255 := am (Kd.R_lower (Kd.R_new' (Kd.R_newM (M := fun k_ => (P0_ k_ ∨ w.heap.size ≤ k_)) ho26 (by first | exact HK.out.1 | exact (show Kept w _ (fun k_ => P0_ k_) from by repeat (first | (with_reducible first | exact HK.out | apply Kept.alloc | apply Kept.drewN | apply Kept.drew) | exact HK.out)).1) (fun k_ h_ => .inr h_)) (Kd.R_lt (pR HO_0.out))) (below_size pB)); replace HO_0 := am (Kd.R_elder' (pR HO_0.out) (Kd.R_base ho26) hb); replace HK := am (Kept.below (S := (fun k_ => P0_ k_)) (by repeat (first | (with_reducible first | exact HK.out | apply Kept.alloc | apply Kept.drewN | apply Kept.drew) | exact HK.out)) hb); replace HB := am (below_step pB hb); clear hb ho26) | ((with_reducible refine gate_builtin (b := .append) (xs := #[.tmp 33, .tmp 34]) rfl ?_); at_builtin; refine Kd.R_append_rows (Kd.int .u8) (w0 := w0) w0.heap.size rfl (.tmp 33) (.tmp 34) 35 5 (.int .u8 0) 1 rfl Tryd.underlying35 info5 rfl (by decide) (by omega) v254 y253 y250 _ _ _ (fun k_ => (P0_ k_ ∨ w.heap.size ≤ k_) ∧ some k_ ≠ (.slice (some ⟨go12, 0, none⟩) x0_1.length co12 : Value).ownBlock) (fun _ => False) rfl rfl ?aO ?aR (fun _ _ h => h) (fun _ h => h.elim) ?aF ?aB ?aS ?aL ?_; (case aR => rw [show x0_1.length = y250.length from (Kd.R_reads' HO_0.out).1]; repeat (first | exact (Kd.R_reads' HO_0.out).2.2 | (with_reducible refine Kd.C_alloc ?_ _) | (with_reducible refine Kd.C_drewN ?_ _) | (with_reducible refine Kd.C_drew ?_))); (case aB => exact pB); (case aF => exact (fun k_ hk => ⟨(.inr (Nat.le_trans (by first | exact HK.out.1 | exact (show Kept w _ (fun k_ => P0_ k_) from by repeat (first | (with_reducible first | exact HK.out | apply Kept.alloc | apply Kept.drewN | apply Kept.drew) | exact HK.out)).1) hk)), Kd.fresh' (Kd.R_lt (pR HO_0.out)) k_ hk⟩)); (case aO => exact (by (with_reducible repeat (first | apply Kd.R_alloc | apply Kd.R_drewN | apply Kd.R_drew)); exact Kd.R_mono HO255.out (fun _ hk => ⟨hk.1.1, hk.2⟩))); (case aS => exact (below_size pB)); (case aL => have := LMc22.out; have hlx_ := (Kd.R_reads' HO_0.out).1; omega); intro v257 w27 ho hb hg hat; rw [← Ny256.out] at ho; replace HO_0 := am (Kd.R_after (ok := (fun k_ => (P0_ k_ ∨ w.heap.size ≤ k_))) (pR HO_0.out) hg hat); replace HB := am (hb); replace HK := am (Kept.of_grown (S := (fun k_ => P0_ k_)) hg (by repeat (first | (with_reducible first | exact HK.out | apply Kept.alloc | apply Kept.drewN | apply Kept.drew) | exact HK.out)) (fun k_ e_ => (HO255.out.1 k_ e_).1.1)); have HO258 := am (ho); clear HO255; clear ho hb hg hat))
          go_roundg kj3
          case measure => have := HK1.out; have := HJ3.out; omega
          case rel => exact ⟨(y256), (wrap64 (x1_1 + 1)), (wrap64 (x6_1 - 1)), (by first | rfl | (simp; done) | (simp [*]; done)), (by first | rfl | (simp; done) | (simp [*]; done)), H', ⟨by have := HK1.out; have := HJ3.out; omega⟩, ⟨by (with_reducible repeat (first | apply Kd.R_alloc | apply Kd.R_drewN | apply Kd.R_drew)); exact Kd.R_mono HO258.out (fun _ hk => hk.1)⟩, ⟨by repeat (first | (with_reducible first | exact HK.out | apply Kept.alloc | apply Kept.drewN | apply Kept.drew) | exact HK.out)⟩, ⟨pB⟩⟩
         ·rw [if_neg c22] at H
          exact absurd H (by simp)
       ·rw [if_neg c11] at H
        exact absurd H (by simp)
      ·rw [if_neg c10] at H
       exact absurd H (by simp)
     ·replace c9 := Bool.eq_false_iff.mpr c9
      subst c9
      rw [if_neg (show ¬ (false = true) by decide)] at H
      replace H := Option.bind_eq_some_iff.mp H
      obtain ⟨t259, A280, H⟩ := H
      try dsimp only at H
      have A28 := am A280
      clear A280
      simp only [Option.some.injEq, Prod.mk.injEq] at H
      obtain ⟨rfl, rfl⟩ := H
      have hcv29 := own_string (P := Tryd.prog) Tryd.underlying35 Tryd.underlying5 Tryd.underlying9 (Kd.own_of_R HO_0.out)
      try have hcq30 := fun n_ : Nat => own_string (P := Tryd.prog) Tryd.underlying35 Tryd.underlying5 Tryd.underlying9 (Kd.own_of_R (Kd.R_drewN HO_0.out n_))
      go_wp2_with (first | ((with_reducible refine gate_callee (f := 67) rfl ?_); refine goesL_ (some 40) rfl rfl Tryd.func67 (by kernel_rfl) rfl #[.string (strOfNums x0_1), .string (⟨#[48]⟩ : ByteArray)] rfl pM ?_; (with_reducible refine (strings_TrimRight.calls (strOfNums x0_1) (⟨#[48]⟩ : ByteArray) t259 _ A28.out).mono ?_); rintro e w' ⟨rfl, ⟨nd, rfl⟩⟩; refine ⟨_, rfl, ?_⟩))
      go_ret2
      exact ⟨pE, pB, by repeat (first | (with_reducible first | exact HK.out | apply Kept.alloc | apply Kept.drewN | apply Kept.drew) | exact HK.out)⟩
end Go.Proofs.YtflcanpajgpghaaDoor.Pr
end
section
namespace Go.Proofs.YtflcanpajgpghaaDoorW.PrintWords
open Go.RowKit Go.Proofs.YtflcanpajgpghaaDoorW.PrintLast
section
variable {P : Program} {ops : Array Oper} {rest : List Oper} {o : Oper} {a : Act} {Q : Exit → Act → World → Prop} {W : World}
end
end Go.Proofs.YtflcanpajgpghaaDoorW.PrintWords
namespace Go.Proofs.YtflcanpajgpghaaDoor.Pr
open Go.RowKit Go.Proofs.YtflcanpajgpghaaDoorW.PrintWords Go.Proofs.YtflcanpajgpghaaDoorW.PrintLast Go.Proofs.YtflcanpajgpghaaDoorW.PrintMore
def dec_high.f (k : Nat) (l0 l1 l3 : List Int) (b : Bool) : Option Bool := (dec_big_plus.f k l1 l3).bind fun t => (dec_big_cmp.f k t l0).bind fun c => some (decide (c > 0) || (b && decide (c = 0)))
theorem dec_high.mono : ∀ a0 a1 a2 a3 k, LeO (dec_high.f k a0 a1 a2 a3) (dec_high.f (k + 1) a0 a1 a2 a3) := by
 intro a0 a1 a2 a3 k r h
 unfold dec_high.f at h ⊢
 obtain ⟨t, ht, h⟩ := Option.bind_eq_some_iff.mp h
 obtain ⟨c, hc, h⟩ := Option.bind_eq_some_iff.mp h
 exact Option.bind_eq_some_iff.mpr ⟨t, dec_big_plus.mono _ _ _ _ ht, Option.bind_eq_some_iff.mpr ⟨c, dec_big_cmp.mono _ _ _ _ hc, h⟩⟩
set_option maxRecDepth 100000 in
theorem dec_high.calls (k : Nat) (A0 : Option Addr) (c0 : Nat) (l0 : List Int) (A1 : Option Addr) (c1 : Nat) (l1 : List Int) (A3 : Option Addr) (c3 : Nat) (l3 : List Int) (b r : Bool) (w : World) (hr0 : Kd.C (Kd.int .u32) w A0 l0.length l0) (hc0 : l0.length ≤ c0) (hr1 : Kd.C (Kd.int .u32) w A1 l1.length l1) (hc1 : l1.length ≤ c1) (hr3 : Kd.C (Kd.int .u32) w A3 l3.length l3) (hc3 : l3.length ≤ c3) (h : dec_high.f k l0 l1 l3 b = some r)
  (gx ge : Nat) (hx0 : w.cell? ⟨gx, 0, none⟩ = some (.slice A1 l1.length c1)) (hx3 : w.cell? ⟨gx, 3, none⟩ = some (.slice A3 l3.length c3)) (he : w.cell? ⟨ge, 0, none⟩ = some (.bool b)) :
  Calls Tryd.prog 33 #[.slice A0 l0.length c0, .pointer (some ⟨gx, 0, none⟩), .pointer (some ⟨ge, 0, none⟩)] w fun e w' => e = .returned (.bool r) ∧ Below w.heap.size w w' := by
 have hu66 := Tryd.underlying66
 have HB := Aside0.mk (Below.refl w.heap.size w)
 unfold dec_high.f at h
 obtain ⟨t, ht, h⟩ := Option.bind_eq_some_iff.mp h
 obtain ⟨c, hc, h⟩ := Option.bind_eq_some_iff.mp h
 obtain rfl := Option.some.inj h
 have HT := Aside0.mk ht
 have HC := Aside0.mk hc
 clear ht hc h
 have HR0 := Aside0.mk hr0
 have HC0 := Aside0.mk hc0
 have HR1 := Aside0.mk hr1
 have HC1 := Aside0.mk hc1
 have HR3 := Aside0.mk hr3
 have HC3 := Aside0.mk hc3
 have HE := Aside0.mk he
 clear hr0 hc0 hr1 hc1 hr3 hc3
 cases b with
 | true =>
  go_enter Tryd.func33, Tryd.ntmps33
  go_wp2_with (first | ((with_reducible refine gate_callee (f := 34) rfl ?_); refine goesL_ (some 10) rfl rfl Tryd.func34 (by kernel_rfl) rfl #[.slice A1 l1.length c1, .slice A3 l3.length c3] rfl (by (try simp only [List.map_toArray, List.map_cons, List.map_nil]); first | done | rfl) ?_; (with_reducible refine (dec_big_plus.calls k A1 c1 l1 A3 c3 l3 t _ HR1.out HC1.out HR3.out HC3.out HT.out).mono ?_); rintro e w1 ⟨v, rfl, ho, hb⟩; refine ⟨_, rfl, ?_⟩; have HO := Aside0.mk ho; clear ho; obtain ⟨Ao, co, eo⟩ := Kd.V_slice HO.out; subst eo; have HE1 := Aside0.mk ((hb.cell (World.block_lt_of_cell? w _ HE.out)).trans HE.out); have HB1 := Aside0.mk hb; have HR01 := Aside0.mk (Kd.C_below HR0.out hb); clear hb) | ((with_reducible refine gate_callee (f := 35) rfl ?_); refine goesL_ (some 12) rfl rfl Tryd.func35 (by kernel_rfl) rfl #[.slice Ao t.length co, .slice A0 l0.length c0] rfl (by (try simp only [List.map_toArray, List.map_cons, List.map_nil]); first | done | rfl) ?_; (with_reducible refine (dec_big_cmp.calls k Ao co t A0 c0 l0 c _ ?side1 ?side2 ?side3 HC0.out HC.out).mono ?_); (case side1 => repeat (first | exact (Kd.V_reads' HO.out).2.2 | (with_reducible refine Kd.C_drewN ?_ _) | (with_reducible refine Kd.C_drew ?_))); (case side2 => exact (Kd.V_reads' HO.out).2.1); (case side3 => repeat (first | exact HR01.out | (with_reducible refine Kd.C_drewN ?_ _) | (with_reducible refine Kd.C_drew ?_))); rintro e w2 ⟨rfl, ⟨nd, rfl⟩⟩; refine ⟨_, rfl, ?_⟩; have he1 := HE1.out))
  all_goals (go_ret; exact ⟨by first | rfl | (simp; done) | (simp [*]; done) | (simp [*, Int.beq_eq_decide]; done) | (by_cases hz_ : c = 0 <;> simp_all), by first | exact pw_below_drewN HB1.out _ | exact HB1.out⟩)
 | false =>
  go_enter Tryd.func33, Tryd.ntmps33
  go_wp2_with (first | ((with_reducible refine gate_callee (f := 34) rfl ?_); refine goesL_ (some 10) rfl rfl Tryd.func34 (by kernel_rfl) rfl #[.slice A1 l1.length c1, .slice A3 l3.length c3] rfl (by (try simp only [List.map_toArray, List.map_cons, List.map_nil]); first | done | rfl) ?_; (with_reducible refine (dec_big_plus.calls k A1 c1 l1 A3 c3 l3 t _ HR1.out HC1.out HR3.out HC3.out HT.out).mono ?_); rintro e w1 ⟨v, rfl, ho, hb⟩; refine ⟨_, rfl, ?_⟩; have HO := Aside0.mk ho; clear ho; obtain ⟨Ao, co, eo⟩ := Kd.V_slice HO.out; subst eo; have HE1 := Aside0.mk ((hb.cell (World.block_lt_of_cell? w _ HE.out)).trans HE.out); have HB1 := Aside0.mk hb; have HR01 := Aside0.mk (Kd.C_below HR0.out hb); clear hb) | ((with_reducible refine gate_callee (f := 35) rfl ?_); refine goesL_ (some 12) rfl rfl Tryd.func35 (by kernel_rfl) rfl #[.slice Ao t.length co, .slice A0 l0.length c0] rfl (by (try simp only [List.map_toArray, List.map_cons, List.map_nil]); first | done | rfl) ?_; (with_reducible refine (dec_big_cmp.calls k Ao co t A0 c0 l0 c _ ?side1 ?side2 ?side3 HC0.out HC.out).mono ?_); (case side1 => repeat (first | exact (Kd.V_reads' HO.out).2.2 | (with_reducible refine Kd.C_drewN ?_ _) | (with_reducible refine Kd.C_drew ?_))); (case side2 => exact (Kd.V_reads' HO.out).2.1); (case side3 => repeat (first | exact HR01.out | (with_reducible refine Kd.C_drewN ?_ _) | (with_reducible refine Kd.C_drew ?_))); rintro e w2 ⟨rfl, ⟨nd, rfl⟩⟩; refine ⟨_, rfl, ?_⟩; have he1 := HE1.out))
  all_goals (go_ret; exact ⟨by first | rfl | (simp; done) | (simp [*]; done) | (simp [*, Int.beq_eq_decide]; done) | (by_cases hz_ : c = 0 <;> simp_all), by first | exact pw_below_drewN HB1.out _ | exact HB1.out⟩)
end Go.Proofs.YtflcanpajgpghaaDoor.Pr
end
section
namespace Go.Proofs.YtflcanpajgpghaaDoor.Pr
open Go.RowKit Go.Proofs.YtflcanpajgpghaaDoorW.PrintWords Go.Proofs.YtflcanpajgpghaaDoorW.PrintLast Go.Proofs.YtflcanpajgpghaaDoorW.PrintMore
attribute [local go_sem] max2_int min2_int max_two min_two max_three min_three max_four min_four
mutual
def dec_shortest.j0 : Nat → Int → List Int → List Int → List Int → List Int → Bool → Option (ByteArray × Int)
 | 0, _, _, _, _, _, _ => none
 | k + 1, x7, x273000, x273001, x273002, x273003, x274000 => dec_shortest.l0 k x7 x273000 x273001 x273002 x273003 x274000
def dec_shortest.l0 : Nat → Int → List Int → List Int → List Int → List Int → Bool → Option (ByteArray × Int)
 | 0, _, _, _, _, _, _ => none
 | k + 1, x7, x273000, x273001, x273002, x273003, x274000 => (dec_big_times.f k x273001 10 0).bind fun t288 => ((dec_high.f k t288 x273000 x273003 x274000).bind fun t291 => (if t291 = true then ((dec_big_times.f k x273001 10 0).bind fun t292 => (dec_shortest.l0 k (wrap64 (x7 + 1)) x273000 t292 x273002 x273003 x274000)) else (dec_shortest.l1 k x7 x273000 x273001 x273002 x273003 x274000)))
def dec_shortest.l1 : Nat → Int → List Int → List Int → List Int → List Int → Bool → Option (ByteArray × Int)
 | 0, _, _, _, _, _, _ => none
 | k + 1, x7, x273000, x273001, x273002, x273003, x274000 => (dec_high.f k x273001 x273000 x273003 x274000).bind fun t295 => (if t295 = true then (dec_shortest.l2 k x7 ([] : List Int) x273000 x273001 x273002 x273003 x274000) else ((dec_big_times.f k x273000 10 0).bind fun t296 => ((dec_big_times.f k x273002 10 0).bind fun t299 => ((dec_big_times.f k x273003 10 0).bind fun t302 => (dec_shortest.l1 k (wrap64 (x7 - 1)) t296 x273001 t299 t302 x274000)))))
def dec_shortest.l2 : Nat → Int → List Int → List Int → List Int → List Int → List Int → Bool → Option (ByteArray × Int)
 | 0, _, _, _, _, _, _, _ => none
 | k + 1, x7, x8, x273000, x273001, x273002, x273003, x274000 => dec_shortest.l3 k x7 x8 0 x273000 x273001 x273002 x273003 x274000
def dec_shortest.l3 : Nat → Int → List Int → Int → List Int → List Int → List Int → List Int → Bool → Option (ByteArray × Int)
 | 0, _, _, _, _, _, _, _, _ => none
 | k + 1, x7, x8, x9, x273000, x273001, x273002, x273003, x274000 => (dec_big_cmp.f k x273000 x273001).bind fun t305 => (if t305 ≥ 0 then ((dec_big_minus.f k x273000 x273001).bind fun t306 => (dec_shortest.l3 k x7 x8 ((x9 + 1) % 256) t306 x273001 x273002 x273003 x274000)) else ((dec_big_cmp.f k x273000 x273002).bind fun t309 => (if t309 < 0 then ((dec_high.f k x273001 x273000 x273003 x274000).bind fun t310 => (dec_shortest.j5 k x7 x8 x9 true t310 x273000 x273001 x273002 x273003 x274000)) else (if x274000 = true then ((dec_high.f k x273001 x273000 x273003 x274000).bind fun t311 => (dec_shortest.j5 k x7 x8 x9 (t309 == 0) t311 x273000 x273001 x273002 x273003 x274000)) else ((dec_high.f k x273001 x273000 x273003 x274000).bind fun t312 => (dec_shortest.j5 k x7 x8 x9 false t312 x273000 x273001 x273002 x273003 x274000))))))
def dec_shortest.j5 : Nat → Int → List Int → Int → Bool → Bool → List Int → List Int → List Int → List Int → Bool → Option (ByteArray × Int)
 | 0, _, _, _, _, _, _, _, _, _, _ => none
 | k + 1, x7, x8, x9, x11, x12, x273000, x273001, x273002, x273003, x274000 => if x11 = true then (dec_shortest.j6 k x7 x8 x9 x11 x12 false x273000 x273001 x273002 x273003 x274000) else (dec_shortest.j6 k x7 x8 x9 x11 x12 (!x12) x273000 x273001 x273002 x273003 x274000)
def dec_shortest.j6 : Nat → Int → List Int → Int → Bool → Bool → Bool → List Int → List Int → List Int → List Int → Bool → Option (ByteArray × Int)
 | 0, _, _, _, _, _, _, _, _, _, _, _ => none
 | k + 1, x7, x8, x9, x11, x12, x121, x273000, x273001, x273002, x273003, x274000 => if x121 = true then (if x8.length < 140737488355328 then ((dec_big_times.f k x273000 10 0).bind fun t316 => ((dec_big_times.f k x273002 10 0).bind fun t319 => ((dec_big_times.f k x273003 10 0).bind fun t322 => (dec_shortest.l2 k x7 (x8 ++ [(48 + x9) % 256]) t316 x273001 t319 t322 x274000)))) else (none)) else ((dec_big_up.f k x273000 1).bind fun t325 => ((dec_big_cmp.f k t325 x273001).bind fun t328 => (if x12 = true then (if x11 = true then (if t328 > 0 then (if x8.length < 140737488355328 then ((dec_tidy.f k (x8 ++ [(48 + ((x9 + 1) % 256)) % 256]) x7).bind fun bt332 => (some (bt332.1, bt332.2))) else (none)) else (if t328 = 0 then (if (Int.tmod x9 2) = 1 then (if x8.length < 140737488355328 then ((dec_tidy.f k (x8 ++ [(48 + ((x9 + 1) % 256)) % 256]) x7).bind fun bt337 => (some (bt337.1, bt337.2))) else (none)) else (if x8.length < 140737488355328 then ((dec_tidy.f k (x8 ++ [(48 + x9) % 256]) x7).bind fun bt342 => (some (bt342.1, bt342.2))) else (none))) else (if x8.length < 140737488355328 then ((dec_tidy.f k (x8 ++ [(48 + x9) % 256]) x7).bind fun bt347 => (some (bt347.1, bt347.2))) else (none)))) else (if x8.length < 140737488355328 then ((dec_tidy.f k (x8 ++ [(48 + ((x9 + 1) % 256)) % 256]) x7).bind fun bt352 => (some (bt352.1, bt352.2))) else (none))) else (if x8.length < 140737488355328 then ((dec_tidy.f k (x8 ++ [(48 + x9) % 256]) x7).bind fun bt357 => (some (bt357.1, bt357.2))) else (none)))))
end
def dec_shortest.f (k : Nat) (a0 : Int) : Option (ByteArray × Int) := (dec_spans.f k a0).bind fun bt260 => ((dec_big_len.f bt260.1).bind fun t274 => ((dec_big_len.f bt260.2.1).bind fun t275 => (if ((wrap64 ((wrap64 (t274 - t275)) * 1233)) / 4096) ≥ 0 then ((dec_big_tens.f k bt260.2.1 ((wrap64 ((wrap64 (t274 - t275)) * 1233)) / 4096)).bind fun t276 => (dec_shortest.j0 k ((wrap64 ((wrap64 (t274 - t275)) * 1233)) / 4096) bt260.1 t276 bt260.2.2.1 bt260.2.2.2 ((Go.bits .and .u64 a0 1) == 0))) else ((dec_big_tens.f k bt260.1 (wrap64 (-((wrap64 ((wrap64 (t274 - t275)) * 1233)) / 4096)))).bind fun t279 => ((dec_big_tens.f k bt260.2.2.1 (wrap64 (-((wrap64 ((wrap64 (t274 - t275)) * 1233)) / 4096)))).bind fun t282 => ((dec_big_tens.f k bt260.2.2.2 (wrap64 (-((wrap64 ((wrap64 (t274 - t275)) * 1233)) / 4096)))).bind fun t285 => (dec_shortest.j0 k ((wrap64 ((wrap64 (t274 - t275)) * 1233)) / 4096) t279 bt260.2.1 t282 t285 ((Go.bits .and .u64 a0 1) == 0))))))))
theorem dec_shortest.mono_l : ∀ k, (∀ y0 y1 y2 y3 y4 y5, LeO (dec_shortest.j0 k y0 y1 y2 y3 y4 y5) (dec_shortest.j0 (k + 1) y0 y1 y2 y3 y4 y5)) ∧ (∀ y0 y1 y2 y3 y4 y5, LeO (dec_shortest.l0 k y0 y1 y2 y3 y4 y5) (dec_shortest.l0 (k + 1) y0 y1 y2 y3 y4 y5)) ∧ (∀ y0 y1 y2 y3 y4 y5, LeO (dec_shortest.l1 k y0 y1 y2 y3 y4 y5) (dec_shortest.l1 (k + 1) y0 y1 y2 y3 y4 y5)) ∧ (∀ y0 y1 y2 y3 y4 y5 y6, LeO (dec_shortest.l2 k y0 y1 y2 y3 y4 y5 y6) (dec_shortest.l2 (k + 1) y0 y1 y2 y3 y4 y5 y6)) ∧ (∀ y0 y1 y2 y3 y4 y5 y6 y7, LeO (dec_shortest.l3 k y0 y1 y2 y3 y4 y5 y6 y7) (dec_shortest.l3 (k + 1) y0 y1 y2 y3 y4 y5 y6 y7)) ∧ (∀ y0 y1 y2 y3 y4 y5 y6 y7 y8 y9, LeO (dec_shortest.j5 k y0 y1 y2 y3 y4 y5 y6 y7 y8 y9) (dec_shortest.j5 (k + 1) y0 y1 y2 y3 y4 y5 y6 y7 y8 y9)) ∧ (∀ y0 y1 y2 y3 y4 y5 y6 y7 y8 y9 y10, LeO (dec_shortest.j6 k y0 y1 y2 y3 y4 y5 y6 y7 y8 y9 y10) (dec_shortest.j6 (k + 1) y0 y1 y2 y3 y4 y5 y6 y7 y8 y9 y10))
 | 0 => ⟨fun _ _ _ _ _ _ r h => by simp [dec_shortest.j0] at h, fun _ _ _ _ _ _ r h => by simp [dec_shortest.l0] at h, fun _ _ _ _ _ _ r h => by simp [dec_shortest.l1] at h, fun _ _ _ _ _ _ _ r h => by simp [dec_shortest.l2] at h, fun _ _ _ _ _ _ _ _ r h => by simp [dec_shortest.l3] at h, fun _ _ _ _ _ _ _ _ _ _ r h => by simp [dec_shortest.j5] at h, fun _ _ _ _ _ _ _ _ _ _ _ r h => by simp [dec_shortest.j6] at h⟩
 | k + 1 => by
  obtain ⟨ih0, ih1, ih2, ih3, ih4, ih5, ih6⟩ := dec_shortest.mono_l k
  refine ⟨?_, ?_, ?_, ?_, ?_, ?_, ?_⟩
  all_goals intros
  all_goals first | unfold dec_shortest.j0 | unfold dec_shortest.l0 | unfold dec_shortest.l1 | unfold dec_shortest.l2 | unfold dec_shortest.l3 | unfold dec_shortest.j5 | unfold dec_shortest.j6
  all_goals repeat' first
   | (with_reducible exact ih0 _ _ _ _ _ _)
   | (with_reducible exact ih1 _ _ _ _ _ _)
   | (with_reducible exact ih2 _ _ _ _ _ _)
   | (with_reducible exact ih3 _ _ _ _ _ _ _)
   | (with_reducible exact ih4 _ _ _ _ _ _ _ _)
   | (with_reducible exact ih5 _ _ _ _ _ _ _ _ _ _)
   | (with_reducible exact ih6 _ _ _ _ _ _ _ _ _ _ _)
   | (with_reducible exact dec_big_cmp.mono _ _ _)
   | (with_reducible exact dec_big_minus.mono _ _ _)
   | (with_reducible exact dec_big_tens.mono _ _ _)
   | (with_reducible exact dec_big_times.mono _ _ _ _)
   | (with_reducible exact dec_big_up.mono _ _ _)
   | (with_reducible exact dec_high.mono _ _ _ _ _)
   | (with_reducible exact dec_spans.mono _ _)
   | (with_reducible exact dec_tidy.mono _ _ _)
   | (with_reducible exact LeO.refl _)
   | (with_reducible exact LeO.none _)
   | (with_reducible refine LeO.ite ?_ ?_)
   | (with_reducible refine LeO.bind ?_ (fun _ => ?_))
   | exact ih0 _ _ _ _ _ _
   | exact ih1 _ _ _ _ _ _
   | exact ih2 _ _ _ _ _ _
   | exact ih3 _ _ _ _ _ _ _
   | exact ih4 _ _ _ _ _ _ _ _
   | exact ih5 _ _ _ _ _ _ _ _ _ _
   | exact ih6 _ _ _ _ _ _ _ _ _ _ _
   | exact dec_big_cmp.mono _ _ _
   | exact dec_big_minus.mono _ _ _
   | exact dec_big_tens.mono _ _ _
   | exact dec_big_times.mono _ _ _ _
   | exact dec_big_up.mono _ _ _
   | exact dec_high.mono _ _ _ _ _
   | exact dec_spans.mono _ _
   | exact dec_tidy.mono _ _ _
   | exact LeO.none _
   | refine LeO.ite ?_ ?_
   | refine LeO.bind ?_ (fun _ => ?_)
theorem dec_shortest.mono : ∀ a0 k, LeO (dec_shortest.f k a0) (dec_shortest.f (k + 1) a0) := by
 intro a0 k
 obtain ⟨ih0, ih1, ih2, ih3, ih4, ih5, ih6⟩ := dec_shortest.mono_l k
 unfold dec_shortest.f
 repeat' first
   | (with_reducible exact ih0 _ _ _ _ _ _)
   | (with_reducible exact ih1 _ _ _ _ _ _)
   | (with_reducible exact ih2 _ _ _ _ _ _)
   | (with_reducible exact ih3 _ _ _ _ _ _ _)
   | (with_reducible exact ih4 _ _ _ _ _ _ _ _)
   | (with_reducible exact ih5 _ _ _ _ _ _ _ _ _ _)
   | (with_reducible exact ih6 _ _ _ _ _ _ _ _ _ _ _)
   | (with_reducible exact dec_big_cmp.mono _ _ _)
   | (with_reducible exact dec_big_minus.mono _ _ _)
   | (with_reducible exact dec_big_tens.mono _ _ _)
   | (with_reducible exact dec_big_times.mono _ _ _ _)
   | (with_reducible exact dec_big_up.mono _ _ _)
   | (with_reducible exact dec_high.mono _ _ _ _ _)
   | (with_reducible exact dec_spans.mono _ _)
   | (with_reducible exact dec_tidy.mono _ _ _)
   | (with_reducible exact LeO.refl _)
   | (with_reducible exact LeO.none _)
   | (with_reducible refine LeO.ite ?_ ?_)
   | (with_reducible refine LeO.bind ?_ (fun _ => ?_))
   | exact ih0 _ _ _ _ _ _
   | exact ih1 _ _ _ _ _ _
   | exact ih2 _ _ _ _ _ _
   | exact ih3 _ _ _ _ _ _ _
   | exact ih4 _ _ _ _ _ _ _ _
   | exact ih5 _ _ _ _ _ _ _ _ _ _
   | exact ih6 _ _ _ _ _ _ _ _ _ _ _
   | exact dec_big_cmp.mono _ _ _
   | exact dec_big_minus.mono _ _ _
   | exact dec_big_tens.mono _ _ _
   | exact dec_big_times.mono _ _ _ _
   | exact dec_big_up.mono _ _ _
   | exact dec_high.mono _ _ _ _ _
   | exact dec_spans.mono _ _
   | exact dec_tidy.mono _ _ _
   | exact LeO.none _
   | refine LeO.ite ?_ ?_
   | refine LeO.bind ?_ (fun _ => ?_)
def dec_shortest.T4 : Bool × List (List Nat × List Nat) := (true, [([], []), ([0], [0]), ([1], [1]), ([], []), ([3], [3]), ([4, 2], [4]), ([2, 5], [2, 5]), ([6], [6]), ([7], [7]), ([8, 5, 0, 1, 2, 3, 4, 5, 6, 7, 8], [8])])
def dec_shortest.B4 : List Nat := [0, 1, 3, 0, 8, 31, 63, 127, 255, 511]
theorem dec_shortest.tab4 : rtab .any (opsOf Tryd.f16 4) = dec_shortest.T4 := by kernel_rfl
theorem dec_shortest.bits4 : waitsOk dec_shortest.T4.2 dec_shortest.B4 = true := by kernel_rfl
def dec_shortest.T7 : Bool × List (List Nat × List Nat) := (true, [([], []), ([0], [0]), ([], []), ([2], [2]), ([1, 3], [1, 3]), ([], []), ([5], [5]), ([], []), ([7], [7]), ([6, 8, 4], [6, 8]), ([], []), ([10], [10]), ([], []), ([12], [12]), ([11, 13, 9], [11, 13]), ([0, 1, 2, 3, 4, 5, 6, 10, 11], []), ([15, 4, 14, 0, 1, 2, 3, 4, 5, 6, 10, 11], [4, 15]), ([0, 1, 2, 3, 4, 5, 6, 7, 8, 9, 10, 11, 15, 16], []), ([17, 9, 16, 0, 1, 2, 3, 4, 5, 6, 7, 8, 9, 10, 11, 15, 16], [9, 17]), ([0, 1, 2, 3, 4, 5, 6, 7, 8, 9, 10, 11, 12, 13, 14, 15, 16, 17, 18], []), ([19, 14, 18, 0, 1, 2, 3, 4, 5, 6, 7, 8, 9, 10, 11, 12, 13, 14, 15, 16, 17, 18], [14, 19])])
def dec_shortest.B7 : List Nat := [0, 1, 0, 4, 15, 0, 32, 0, 128, 511, 0, 1024, 0, 4096, 16383, 3199, 65535, 131071, 262143, 524287, 1048575]
theorem dec_shortest.tab7 : rtab .any (opsOf Tryd.f16 7) = dec_shortest.T7 := by kernel_rfl
theorem dec_shortest.bits7 : waitsOk dec_shortest.T7.2 dec_shortest.B7 = true := by kernel_rfl
def dec_shortest.T11 : Bool × List (List Nat × List Nat) := (true, [([], []), ([0], [0]), ([1], [1]), ([], []), ([3], [3]), ([4, 2], [4]), ([], []), ([6], [6]), ([7, 5], [7]), ([], []), ([9], [9]), ([0, 1, 2, 3, 4, 6, 7], []), ([11, 2, 8, 0, 1, 2, 3, 4, 6, 7], [2, 11]), ([0, 1, 2, 3, 4, 5, 6, 7, 11, 12], []), ([13, 5, 12, 0, 1, 2, 3, 4, 5, 6, 7, 11, 12], [5, 13]), ([0, 1, 2, 3, 4, 5, 6, 7, 8, 11, 12, 13, 14], []), ([15, 8, 14, 0, 1, 2, 3, 4, 5, 6, 7, 8, 11, 12, 13, 14], [8, 15]), ([10, 16, 0, 1, 2, 3, 4, 5, 6, 7, 8, 9, 10, 11, 12, 13, 14, 15, 16], [9, 10])])
def dec_shortest.B11 : List Nat := [0, 1, 3, 0, 8, 31, 0, 64, 255, 0, 512, 223, 2559, 6655, 14847, 31231, 63999, 131071]
theorem dec_shortest.tab11 : rtab .any (opsOf Tryd.f16 11) = dec_shortest.T11 := by kernel_rfl
theorem dec_shortest.bits11 : waitsOk dec_shortest.T11.2 dec_shortest.B11 = true := by kernel_rfl
def dec_shortest.T20 : Bool × List (List Nat × List Nat) := (true, [([], []), ([0], [0]), ([1], [1]), ([], []), ([3], [3]), ([4, 2], [4]), ([], []), ([6], [6]), ([7, 5], [7]), ([0, 1, 2, 3, 4, 6, 7], []), ([9, 2, 8, 0, 1, 2, 3, 4, 6, 7], [2, 9]), ([0, 1, 2, 3, 4, 5, 6, 7, 9, 10], []), ([11, 5, 10, 0, 1, 2, 3, 4, 5, 6, 7, 9, 10], [5, 11]), ([0, 1, 2, 3, 4, 5, 6, 7, 8, 9, 10, 11, 12], []), ([13, 8, 12, 0, 1, 2, 3, 4, 5, 6, 7, 8, 9, 10, 11, 12], [8, 13])])
def dec_shortest.B20 : List Nat := [0, 1, 3, 0, 8, 31, 0, 64, 255, 223, 1023, 2047, 4095, 8191, 16383]
theorem dec_shortest.tab20 : rtab .any (opsOf Tryd.f16 20) = dec_shortest.T20 := by kernel_rfl
theorem dec_shortest.bits20 : waitsOk dec_shortest.T20.2 dec_shortest.B20 = true := by kernel_rfl
set_option maxHeartbeats 8000000 in
set_option maxRecDepth 100000 in
theorem dec_shortest.calls (k : Nat) (a0 : Int) (r1 : ByteArray) (r2 : Int) (w : World) (h : dec_shortest.f k a0 = some (r1, r2)) :
  Calls Tryd.prog 16 #[.int .u64 a0] w fun e w' => e = .returned (.tuple #[.string r1, .int .i64 r2]) ∧ Below w.heap.size w w' := by
 have hu66 := Tryd.underlying66
 have HB := am (Below.refl w.heap.size w)
 have H : ((dec_spans.f k a0).bind fun bt260 => ((dec_big_len.f bt260.1).bind fun t274 => ((dec_big_len.f bt260.2.1).bind fun t275 => (if ((wrap64 ((wrap64 (t274 - t275)) * 1233)) / 4096) ≥ 0 then ((dec_big_tens.f k bt260.2.1 ((wrap64 ((wrap64 (t274 - t275)) * 1233)) / 4096)).bind fun t276 => (dec_shortest.j0 k ((wrap64 ((wrap64 (t274 - t275)) * 1233)) / 4096) bt260.1 t276 bt260.2.2.1 bt260.2.2.2 ((Go.bits .and .u64 a0 1) == 0))) else ((dec_big_tens.f k bt260.1 (wrap64 (-((wrap64 ((wrap64 (t274 - t275)) * 1233)) / 4096)))).bind fun t279 => ((dec_big_tens.f k bt260.2.2.1 (wrap64 (-((wrap64 ((wrap64 (t274 - t275)) * 1233)) / 4096)))).bind fun t282 => ((dec_big_tens.f k bt260.2.2.2 (wrap64 (-((wrap64 ((wrap64 (t274 - t275)) * 1233)) / 4096)))).bind fun t285 => (dec_shortest.j0 k ((wrap64 ((wrap64 (t274 - t275)) * 1233)) / 4096) t279 bt260.2.1 t282 t285 ((Go.bits .and .u64 a0 1) == 0))))))))) = some (r1, r2) := h
 clear h
 replace H := Option.bind_eq_some_iff.mp H
 obtain ⟨⟨t260, t263, t266, t269⟩, A20, H⟩ := H
 try dsimp only at H
 have A2 := am A20
 clear A20
 replace H := Option.bind_eq_some_iff.mp H
 obtain ⟨t274, A30, H⟩ := H
 try dsimp only at H
 have A3 := am A30
 clear A30
 replace H := Option.bind_eq_some_iff.mp H
 obtain ⟨t275, A40, H⟩ := H
 try dsimp only at H
 have A4 := am A40
 clear A40
 have HC5 := am H
 clear H
 go_enter Tryd.func16, Tryd.ntmps16
 try go_wp2_with (first | ((with_reducible refine gate_callee (f := 32) rfl ?_); refine goesL_ (some 15) rfl rfl Tryd.func32 (by kernel_rfl) rfl #[.int .u64 a0] rfl pM ?_; (with_reducible refine (dec_spans.calls k a0 t260 t263 t266 t269 _ A2.out).mono ?_); rintro e w6 ⟨v261, v264, v267, v270, rfl, ho0, ho1, ho2, ho3, hb⟩; refine ⟨_, rfl, ?_⟩; have HO262 := am (Kd.R_lower (Kd.R_mono (ok' := fun k_ => True) ho0 (fun _ hk_ => trivial)) (below_size pB)); have HO265 := am (Kd.V_lower (Kd.V_mono (ok' := fun k_ => some k_ ≠ (v261 : Value).ownBlock) ho1 (fun k_ hk_ => hk_.2)) (below_size pB)); have HO268 := am (Kd.V_lower (Kd.V_mono (ok' := fun k_ => some k_ ≠ (v261 : Value).ownBlock) ho2 (fun k_ hk_ => hk_.2)) (below_size pB)); have HO271 := am (Kd.V_lower (Kd.V_mono (ok' := fun k_ => some k_ ≠ (v261 : Value).ownBlock) ho3 (fun k_ hk_ => hk_.2)) (below_size pB)); replace HB := am (below_step pB hb); (try clear hb); (try clear ho0); (try clear ho1); (try clear ho2); (try clear ho3)) | ((with_reducible refine gate_dst (N := 4) rfl ?_); refine box_event ?hg (N := 4) ?hd (cs := #[.slice none 0 0, .slice none 0 0, .slice none 0 0, .slice none 0 0]) (t := 66) ?hr ?_; (case hd => rfl); (case hg => rfl); (case hr => first | (go_simp; done) | (go_simp; rfl)); intro gb272 hg w7 hbox hb; replace HO262 := am (Kd.R_below (pR HO262.out) hb); replace HO265 := am (Kd.V_below (Kd.V_elderB (pV HO265.out) gb272 (Nat.le_of_eq hg.symm)) hb); replace HO268 := am (Kd.V_below (Kd.V_elderB (pV HO268.out) gb272 (Nat.le_of_eq hg.symm)) hb); replace HO271 := am (Kd.V_below (Kd.V_elderB (pV HO271.out) gb272 (Nat.le_of_eq hg.symm)) hb); have BK272 := am (hbox); have GW272 := am ((by rw [hg]; exact (below_size pB) : w.heap.size ≤ gb272)); have GE272 := am ((by rw [hg]; exact (below_size pB) : w.heap.size ≤ gb272)); replace HB := am (below_step pB hb); clear hb hbox hg; obtain ⟨Ao8, co8, eo8⟩ := Kd.R_slice HO262.out; subst eo8; have q9 := cf4 BK272.out; obtain ⟨Ao10, co10, eo10⟩ := Kd.V_slice HO265.out; subst eo10; obtain ⟨Ao11, co11, eo11⟩ := Kd.V_slice HO268.out; subst eo11; obtain ⟨Ao12, co12, eo12⟩ := Kd.V_slice HO271.out; subst eo12) | ((with_reducible refine gate_dst (N := 5) rfl ?_); refine box_event ?hg (N := 5) ?hd (cs := #[.bool false]) (t := 4) ?hr ?_; (case hd => rfl); (case hg => rfl); (case hr => first | (go_simp; done) | (go_simp; rfl)); intro gb273 hg w13 hbox hb; replace HO262 := am (Kd.R_below (by (with_reducible repeat (first | apply Kd.R_alloc | apply Kd.R_drewN | apply Kd.R_drew)); exact (Kd.R_mono (Kd.R_far (p := ⟨gb272, 3, none⟩) (Kd.R_far (p := ⟨gb272, 2, none⟩) (Kd.R_far (p := ⟨gb272, 1, none⟩) (Kd.R_far (p := ⟨gb272, 0, none⟩) (Kd.R_types HO262.out BK272.out (by decide)) (fun _ hk => hk.2) (.slice Ao8 t260.length co8)) (fun _ hk => hk.2) (.slice Ao10 t263.length co10)) (fun _ hk => hk.2) (.slice Ao11 t266.length co11)) (fun _ hk => hk.2) (.slice Ao12 t269.length co12)) (fun _ h_ => h_.1))) hb); replace HO265 := am (Kd.V_below (Kd.V_elderB (by (with_reducible repeat (first | apply Kd.V_alloc | apply Kd.V_drewN | apply Kd.V_drew)); exact (Kd.V_mono (Kd.V_far (p := ⟨gb272, 3, none⟩) (Kd.V_far (p := ⟨gb272, 2, none⟩) (Kd.V_far (p := ⟨gb272, 1, none⟩) (Kd.V_far (p := ⟨gb272, 0, none⟩) (Kd.V_mono HO265.out (fun k_ hk => (⟨hk, hk.2⟩ : _ ∧ k_ ≠ gb272))) (fun _ hk => hk.2) (.slice Ao8 t260.length co8)) (fun _ hk => hk.2) (.slice Ao10 t263.length co10)) (fun _ hk => hk.2) (.slice Ao11 t266.length co11)) (fun _ hk => hk.2) (.slice Ao12 t269.length co12)) (fun _ h_ => h_.1))) gb273 (Nat.le_of_eq hg.symm)) hb); replace HO268 := am (Kd.V_below (Kd.V_elderB (by (with_reducible repeat (first | apply Kd.V_alloc | apply Kd.V_drewN | apply Kd.V_drew)); exact (Kd.V_mono (Kd.V_far (p := ⟨gb272, 3, none⟩) (Kd.V_far (p := ⟨gb272, 2, none⟩) (Kd.V_far (p := ⟨gb272, 1, none⟩) (Kd.V_far (p := ⟨gb272, 0, none⟩) (Kd.V_mono HO268.out (fun k_ hk => (⟨hk, hk.2⟩ : _ ∧ k_ ≠ gb272))) (fun _ hk => hk.2) (.slice Ao8 t260.length co8)) (fun _ hk => hk.2) (.slice Ao10 t263.length co10)) (fun _ hk => hk.2) (.slice Ao11 t266.length co11)) (fun _ hk => hk.2) (.slice Ao12 t269.length co12)) (fun _ h_ => h_.1))) gb273 (Nat.le_of_eq hg.symm)) hb); replace HO271 := am (Kd.V_below (Kd.V_elderB (by (with_reducible repeat (first | apply Kd.V_alloc | apply Kd.V_drewN | apply Kd.V_drew)); exact (Kd.V_mono (Kd.V_far (p := ⟨gb272, 3, none⟩) (Kd.V_far (p := ⟨gb272, 2, none⟩) (Kd.V_far (p := ⟨gb272, 1, none⟩) (Kd.V_far (p := ⟨gb272, 0, none⟩) (Kd.V_mono HO271.out (fun k_ hk => (⟨hk, hk.2⟩ : _ ∧ k_ ≠ gb272))) (fun _ hk => hk.2) (.slice Ao8 t260.length co8)) (fun _ hk => hk.2) (.slice Ao10 t263.length co10)) (fun _ hk => hk.2) (.slice Ao11 t266.length co11)) (fun _ hk => hk.2) (.slice Ao12 t269.length co12)) (fun _ h_ => h_.1))) gb273 (Nat.le_of_eq hg.symm)) hb); have BK273 := am (hbox); have GW273 := am ((by rw [hg]; exact (below_size pB) : w.heap.size ≤ gb273)); have GE273 := am ((by rw [hg]; exact (below_size pB) : w.heap.size ≤ gb273)); replace HB := am (below_step pB hb); have NB272_273 := am ((by rw [hg]; exact Nat.ne_of_lt (blk_lt (g := gb272) (o := .cells #[.slice Ao8 t260.length co8, .slice Ao10 t263.length co10, .slice Ao11 t266.length co11, .slice Ao12 t269.length co12] 66 (0, 0)) (by (with_reducible repeat (first | refine blk_drewN ?_ _ | refine blk_drew ?_ | refine blk_alloc ?_ _)); refine blk_put (cs := #[.slice Ao8 t260.length co8, .slice Ao10 t263.length co10, .slice Ao11 t266.length co11, .slice none 0 0]) ?_ 3 _ rfl; (with_reducible repeat (first | refine blk_drewN ?_ _ | refine blk_drew ?_ | refine blk_alloc ?_ _)); refine blk_put (cs := #[.slice Ao8 t260.length co8, .slice Ao10 t263.length co10, .slice none 0 0, .slice none 0 0]) ?_ 2 _ rfl; (with_reducible repeat (first | refine blk_drewN ?_ _ | refine blk_drew ?_ | refine blk_alloc ?_ _)); refine blk_put (cs := #[.slice Ao8 t260.length co8, .slice none 0 0, .slice none 0 0, .slice none 0 0]) ?_ 1 _ rfl; (with_reducible repeat (first | refine blk_drewN ?_ _ | refine blk_drew ?_ | refine blk_alloc ?_ _)); refine blk_put (cs := #[.slice none 0 0, .slice none 0 0, .slice none 0 0, .slice none 0 0]) ?_ 0 _ rfl; (with_reducible repeat (first | refine blk_drewN ?_ _ | refine blk_drew ?_ | refine blk_alloc ?_ _)); exact BK272.out)) : gb272 ≠ gb273)); have NB273_272 := am ((by rw [hg]; exact Nat.ne_of_gt (blk_lt (g := gb272) (o := .cells #[.slice Ao8 t260.length co8, .slice Ao10 t263.length co10, .slice Ao11 t266.length co11, .slice Ao12 t269.length co12] 66 (0, 0)) (by (with_reducible repeat (first | refine blk_drewN ?_ _ | refine blk_drew ?_ | refine blk_alloc ?_ _)); refine blk_put (cs := #[.slice Ao8 t260.length co8, .slice Ao10 t263.length co10, .slice Ao11 t266.length co11, .slice none 0 0]) ?_ 3 _ rfl; (with_reducible repeat (first | refine blk_drewN ?_ _ | refine blk_drew ?_ | refine blk_alloc ?_ _)); refine blk_put (cs := #[.slice Ao8 t260.length co8, .slice Ao10 t263.length co10, .slice none 0 0, .slice none 0 0]) ?_ 2 _ rfl; (with_reducible repeat (first | refine blk_drewN ?_ _ | refine blk_drew ?_ | refine blk_alloc ?_ _)); refine blk_put (cs := #[.slice Ao8 t260.length co8, .slice none 0 0, .slice none 0 0, .slice none 0 0]) ?_ 1 _ rfl; (with_reducible repeat (first | refine blk_drewN ?_ _ | refine blk_drew ?_ | refine blk_alloc ?_ _)); refine blk_put (cs := #[.slice none 0 0, .slice none 0 0, .slice none 0 0, .slice none 0 0]) ?_ 0 _ rfl; (with_reducible repeat (first | refine blk_drewN ?_ _ | refine blk_drew ?_ | refine blk_alloc ?_ _)); exact BK272.out)) : gb273 ≠ gb272)); replace BK272 := am (blk_below (g := gb272) (o := .cells #[.slice Ao8 t260.length co8, .slice Ao10 t263.length co10, .slice Ao11 t266.length co11, .slice Ao12 t269.length co12] 66 (0, 0)) (by (with_reducible repeat (first | refine blk_drewN ?_ _ | refine blk_drew ?_ | refine blk_alloc ?_ _)); refine blk_put (cs := #[.slice Ao8 t260.length co8, .slice Ao10 t263.length co10, .slice Ao11 t266.length co11, .slice none 0 0]) ?_ 3 _ rfl; (with_reducible repeat (first | refine blk_drewN ?_ _ | refine blk_drew ?_ | refine blk_alloc ?_ _)); refine blk_put (cs := #[.slice Ao8 t260.length co8, .slice Ao10 t263.length co10, .slice none 0 0, .slice none 0 0]) ?_ 2 _ rfl; (with_reducible repeat (first | refine blk_drewN ?_ _ | refine blk_drew ?_ | refine blk_alloc ?_ _)); refine blk_put (cs := #[.slice Ao8 t260.length co8, .slice none 0 0, .slice none 0 0, .slice none 0 0]) ?_ 1 _ rfl; (with_reducible repeat (first | refine blk_drewN ?_ _ | refine blk_drew ?_ | refine blk_alloc ?_ _)); refine blk_put (cs := #[.slice none 0 0, .slice none 0 0, .slice none 0 0, .slice none 0 0]) ?_ 0 _ rfl; (with_reducible repeat (first | refine blk_drewN ?_ _ | refine blk_drew ?_ | refine blk_alloc ?_ _)); exact BK272.out) hb); clear hb hbox hg; have hnb14 := NB273_272.out; have hnc14 := NB272_273.out; have q15 := cf1 BK273.out))
 have n0_ : Aside0 (Kd.R (Kd.int .u32) 74 (w13.setCell ⟨gb273, 0, none⟩ (.bool ((Go.bits .and .u64 a0 1) == 0))) w.heap.size (fun _ => True) (.slice Ao8 t260.length co8) t260) := ⟨by (with_reducible repeat (first | apply Kd.R_alloc | apply Kd.R_drewN | apply Kd.R_drew)); exact Kd.R_mono (Kd.R_far (p := ⟨gb273, 0, none⟩) (Kd.R_types HO262.out BK273.out (by decide)) (fun _ hk => hk.2) (.bool ((Go.bits .and .u64 a0 1) == 0))) (fun _ hk => trivial)⟩
 have n1_ : Aside0 (Kd.V (Kd.int .u32) 74 (w13.setCell ⟨gb273, 0, none⟩ (.bool ((Go.bits .and .u64 a0 1) == 0))) w.heap.size (fun k_ => some k_ ≠ (.slice Ao8 t260.length co8 : Value).ownBlock ∧ k_ ≠ gb272 ∧ k_ ≠ gb273) (.slice Ao10 t263.length co10) t263) := ⟨by (with_reducible repeat (first | apply Kd.V_alloc | apply Kd.V_drewN | apply Kd.V_drew)); exact Kd.V_mono (Kd.V_far (p := ⟨gb273, 0, none⟩) (Kd.V_mono HO265.out (fun k_ hk => (⟨hk, hk.2⟩ : _ ∧ k_ ≠ gb273))) (fun _ hk => hk.2) (.bool ((Go.bits .and .u64 a0 1) == 0))) (fun _ hk => ⟨hk.1.1.1, ⟨hk.1.1.2, hk.1.2⟩⟩)⟩
 have n2_ : Aside0 (Kd.V (Kd.int .u32) 74 (w13.setCell ⟨gb273, 0, none⟩ (.bool ((Go.bits .and .u64 a0 1) == 0))) w.heap.size (fun k_ => some k_ ≠ (.slice Ao8 t260.length co8 : Value).ownBlock ∧ k_ ≠ gb272 ∧ k_ ≠ gb273) (.slice Ao11 t266.length co11) t266) := ⟨by (with_reducible repeat (first | apply Kd.V_alloc | apply Kd.V_drewN | apply Kd.V_drew)); exact Kd.V_mono (Kd.V_far (p := ⟨gb273, 0, none⟩) (Kd.V_mono HO268.out (fun k_ hk => (⟨hk, hk.2⟩ : _ ∧ k_ ≠ gb273))) (fun _ hk => hk.2) (.bool ((Go.bits .and .u64 a0 1) == 0))) (fun _ hk => ⟨hk.1.1.1, ⟨hk.1.1.2, hk.1.2⟩⟩)⟩
 have n3_ : Aside0 (Kd.V (Kd.int .u32) 74 (w13.setCell ⟨gb273, 0, none⟩ (.bool ((Go.bits .and .u64 a0 1) == 0))) w.heap.size (fun k_ => some k_ ≠ (.slice Ao8 t260.length co8 : Value).ownBlock ∧ k_ ≠ gb272 ∧ k_ ≠ gb273) (.slice Ao12 t269.length co12) t269) := ⟨by (with_reducible repeat (first | apply Kd.V_alloc | apply Kd.V_drewN | apply Kd.V_drew)); exact Kd.V_mono (Kd.V_far (p := ⟨gb273, 0, none⟩) (Kd.V_mono HO271.out (fun k_ hk => (⟨hk, hk.2⟩ : _ ∧ k_ ≠ gb273))) (fun _ hk => hk.2) (.bool ((Go.bits .and .u64 a0 1) == 0))) (fun _ hk => ⟨hk.1.1.1, ⟨hk.1.1.2, hk.1.2⟩⟩)⟩
 have n4_ : Aside0 ((w13.setCell ⟨gb273, 0, none⟩ (.bool ((Go.bits .and .u64 a0 1) == 0))).heap[gb272]? = some (.cells #[.slice Ao8 t260.length co8, .slice Ao10 t263.length co10, .slice Ao11 t266.length co11, .slice Ao12 t269.length co12] 66 (0, 0))) := ⟨by (with_reducible repeat (first | refine blk_drewN ?_ _ | refine blk_drew ?_ | refine blk_alloc ?_ _)); refine blk_far ?_ NB272_273.out _; (with_reducible repeat (first | refine blk_drewN ?_ _ | refine blk_drew ?_ | refine blk_alloc ?_ _)); exact BK272.out⟩
 have n5_ : Aside0 ((w13.setCell ⟨gb273, 0, none⟩ (.bool ((Go.bits .and .u64 a0 1) == 0))).heap[gb273]? = some (.cells #[.bool ((Go.bits .and .u64 a0 1) == 0)] 4 (0, 0))) := ⟨by (with_reducible repeat (first | refine blk_drewN ?_ _ | refine blk_drew ?_ | refine blk_alloc ?_ _)); refine blk_put (cs := #[.bool false]) ?_ 0 _ rfl; (with_reducible repeat (first | refine blk_drewN ?_ _ | refine blk_drew ?_ | refine blk_alloc ?_ _)); exact BK273.out⟩
 have n6_ : Aside0 (Below w.heap.size w (w13.setCell ⟨gb273, 0, none⟩ (.bool ((Go.bits .and .u64 a0 1) == 0)))) := ⟨pB⟩
 (try clear HO262); (try clear HO265); (try clear HO268); (try clear HO271); (try clear BK272); (try clear BK273); (try clear HB)
 generalize (w13.setCell ⟨gb273, 0, none⟩ (.bool ((Go.bits .and .u64 a0 1) == 0))) = w16 at n0_ n1_ n2_ n3_ n4_ n5_ n6_ ⊢
 have HO262 := n0_; have HO265 := n1_; have HO268 := n2_; have HO271 := n3_; have BK272 := n4_; have BK273 := n5_; have HB := n6_; clear n0_ n1_ n2_ n3_ n4_ n5_ n6_
 replace HO262 := am (Kd.R_drew HO262.out)
 replace HO265 := am (Kd.V_drew HO265.out)
 replace HO268 := am (Kd.V_drew HO268.out)
 replace HO271 := am (Kd.V_drew HO271.out)
 replace BK272 := am (blk_drew BK272.out)
 replace BK273 := am (blk_drew BK273.out)
 replace HB := am (below_drew1 HB.out)
 refine start_ (n := 10) (S := fun w' => w'.cell? ⟨gb272, 0, none⟩ = some (.slice Ao8 t260.length co8) ∧ w'.cell? ⟨gb272, 1, none⟩ = some (.slice Ao10 t263.length co10) ∧ w'.cell? ⟨gb272, 2, none⟩ = some (.slice Ao11 t266.length co11) ∧ w'.cell? ⟨gb272, 3, none⟩ = some (.slice Ao12 t269.length co12)) (ds := []) (bm 10 0) (by kernel_rfl) rfl rfl ⟨cz0 BK272.out, cz1 BK272.out, cz2 BK272.out, cz3 BK272.out⟩ (fun hHeld => ?_); refine with_tabW dec_shortest.tab4 dec_shortest.bits4 (fun HT_ HW_ => ?_)
 generalize w16.drew = w17 at HO262 HO265 HO268 HO271 BK272 BK273 HB hHeld ⊢
 refine pure_ (i := 0) (N := some 20) (v := ?_) (a' := ?_) (bm 10 1) rfl rfl (any_of HT_.out (by kernel_rfl)) (fun _ _ _ h => h) (Or.inl ⟨by kernel_rfl, ?_⟩) ?_ ?_
 rotate_left
 ·intro w'
  go_simp
  with_reducible rfl
 rotate_left
 ·exact pA
 refine pure_ (i := 3) (N := some 23) (v := ?_) (a' := ?_) (bm 10 9) rfl rfl (any_of HT_.out (by kernel_rfl)) (fun _ _ _ h => h) (Or.inl ⟨by kernel_rfl, ?_⟩) ?_ ?_
 rotate_left
 ·intro w'
  go_simp
  with_reducible rfl
 rotate_left
 ·exact pA
 refine take_ (i := 1) (N := some 21) (v := ?_) (a' := ?_) (bm 10 11) rfl rfl (take_ofW HT_.out HW_.out (by kernel_rfl)) (fun _ _ _ h => h) (Or.inl ⟨by kernel_rfl, ?_⟩) hHeld ?_ ?_
 rotate_left
 ·rintro w' ⟨s0, s1, s2, s3⟩
  go_simp
  with_reducible rfl
 rotate_left
 ·exact pA
 refine take_ (i := 4) (N := some 24) (v := ?_) (a' := ?_) (bm 10 27) rfl rfl (take_ofW HT_.out HW_.out (by kernel_rfl)) (fun _ _ _ h => h) (Or.inl ⟨by kernel_rfl, ?_⟩) hHeld ?_ ?_
 rotate_left
 ·rintro w' ⟨s0, s1, s2, s3⟩
  go_simp
  with_reducible rfl
 rotate_left
 ·exact pA
 refine one_ (i := 2) (N := some 22) (bm 10 31) rfl rfl (one_of HT_.out (by kernel_rfl)) (by decide) (fun K hK => ?_)
 refine goes_ Tryd.func36 (by kernel_rfl) rfl #[.slice Ao8 t260.length co8] (by rfl) rfl rfl pM ?_
 with_reducible refine (dec_big_len.calls _ _ t260 t274 _ ?side1 ?side2 A3.out).mono ?_
 (case side1 => repeat (first | exact (Kd.R_reads' HO262.out).2.2 | (with_reducible refine Kd.C_alloc ?_ _) | (with_reducible refine Kd.C_drewN ?_ _) | (with_reducible refine Kd.C_drew ?_)))
 (case side2 => exact (Kd.R_reads' HO262.out).2.1)
 rintro e w' ⟨rfl, ⟨nd1_, rfl⟩⟩
 refine ⟨_, rfl, ?_⟩
 refine hK.out _ _ ⟨cz0 BK272.out, cz1 BK272.out, cz2 BK272.out, cz3 BK272.out⟩ (fun hHeld => ?_)
 clear hK K
 refine norm_ (a' := ?_) ?_ ?_
 rotate_left
 ·show Act.put _ (some 22) _ = _
  exact pA
 refine one_ (i := 5) (N := some 25) (bm 10 63) rfl rfl (one_of HT_.out (by kernel_rfl)) (by decide) (fun K hK => ?_)
 refine goes_ Tryd.func36 (by kernel_rfl) rfl #[.slice Ao10 t263.length co10] (by rfl) rfl rfl pM ?_
 with_reducible refine (dec_big_len.calls _ _ t263 t275 _ ?side1 ?side2 A4.out).mono ?_
 (case side1 => repeat (first | exact (Kd.V_reads' HO265.out).2.2 | (with_reducible refine Kd.C_alloc ?_ _) | (with_reducible refine Kd.C_drewN ?_ _) | (with_reducible refine Kd.C_drew ?_)))
 (case side2 => exact (Kd.V_reads' HO265.out).2.1)
 rintro e w' ⟨rfl, ⟨nd2_, rfl⟩⟩
 refine ⟨_, rfl, ?_⟩
 refine hK.out _ _ ⟨cz0 BK272.out, cz1 BK272.out, cz2 BK272.out, cz3 BK272.out⟩ (fun hHeld => ?_)
 clear hK K
 refine norm_ (a' := ?_) ?_ ?_
 rotate_left
 ·show Act.put _ (some 25) _ = _
  exact pA
 refine pure_ (i := 6) (N := some 26) (v := ?_) (a' := ?_) (bm 10 127) rfl rfl (any_of HT_.out (by kernel_rfl)) (fun _ _ _ h => h) (Or.inl ⟨by kernel_rfl, ?_⟩) ?_ ?_
 rotate_left
 ·intro w'
  go_simp
  with_reducible rfl
 rotate_left
 ·exact pA
 refine pure_ (i := 7) (N := some 27) (v := ?_) (a' := ?_) (bm 10 255) rfl rfl (any_of HT_.out (by kernel_rfl)) (fun _ _ _ h => h) (Or.inl ⟨by kernel_rfl, ?_⟩) ?_ ?_
 rotate_left
 ·intro w'
  go_simp
  with_reducible rfl
 rotate_left
 ·exact pA
 refine pure_ (i := 8) (N := some 28) (v := ?_) (a' := ?_) (bm 10 511) rfl rfl (any_of HT_.out (by kernel_rfl)) (fun _ _ _ h => h) (Or.inl ⟨by kernel_rfl, ?_⟩) ?_ ?_
 rotate_left
 ·intro w'
  go_simp
  with_reducible rfl
 rotate_left
 ·exact pA
 refine pure_ (i := 9) (N := some 7) (v := ?_) (a' := ?_) (bm 10 1023) rfl rfl (any_of HT_.out (by kernel_rfl)) (fun _ _ _ h => h) (Or.inl ⟨by kernel_rfl, ?_⟩) ?_ ?_
 rotate_left
 ·intro w'
  go_simp
  with_reducible rfl
 rotate_left
 ·exact pA
 refine done_ (done_of HT_.out (by kernel_rfl)) ?_
 go_upto_if 30 with (fail)
 go_cut [] (fun wc => ∃ (kq : Nat) (x273000_4 : List Int) (x273001_4 : List Int) (x273002_4 : List Int) (x273003_4 : List Int) (u273000 : Value) (u273001 : Value) (u273002 : Value) (u273003 : Value), Aside0 (dec_shortest.j0 kq ((wrap64 ((wrap64 (t274 - t275)) * 1233)) / 4096) x273000_4 x273001_4 x273002_4 x273003_4 ((Go.bits .and .u64 a0 1) == 0) = some (r1, r2)) ∧ Aside0 (kq ≤ k) ∧ Aside0 (Kd.V (Kd.int .u32) 74 wc w.heap.size (fun k_ => k_ ≠ gb272 ∧ k_ ≠ gb273) u273000 x273000_4) ∧ Aside0 (Kd.V (Kd.int .u32) 74 wc w.heap.size (fun k_ => k_ ≠ gb272 ∧ k_ ≠ gb273) u273001 x273001_4) ∧ Aside0 (Kd.V (Kd.int .u32) 74 wc w.heap.size (fun k_ => k_ ≠ gb272 ∧ k_ ≠ gb273) u273002 x273002_4) ∧ Aside0 (Kd.V (Kd.int .u32) 74 wc w.heap.size (fun k_ => k_ ≠ gb272 ∧ k_ ≠ gb273) u273003 x273003_4) ∧ Aside0 (wc.heap[gb272]? = some (.cells #[u273000, u273001, u273002, u273003] 66 (0, 0))) ∧ Aside0 (wc.heap[gb273]? = some (.cells #[.bool ((Go.bits .and .u64 a0 1) == 0)] 4 (0, 0))) ∧ Aside0 (Below w.heap.size w wc))
 case first =>
  have H := HC5.out
  clear HC5
  by_cases c18 : ((wrap64 ((wrap64 (t274 - t275)) * 1233)) / 4096) ≥ 0
  ·rw [if_pos c18] at H
   have c18b0 : decide (0 ≤ ((wrap64 ((wrap64 (t274 - t275)) * 1233)) / 4096)) = true := decide_eq_true c18
   clear c18
   (first | rw [c18b0] | (simp only [i64_w, i32_w]; rw [c18b0]) | rw [c18b1] | (simp only [i64_w, i32_w]; rw [c18b1]) | skip)
   replace H := Option.bind_eq_some_iff.mp H
   obtain ⟨t276, A190, H⟩ := H
   try dsimp only at H
   have A19 := am A190
   clear A190
   have H' := am H
   clear H
   have hnb20 := NB272_273.out
   have hnc20 := NB273_272.out
   have q21 := cf4 BK272.out
   go_wp2_with (first | ((with_reducible refine gate_callee (f := 37) rfl ?_); refine goesL_ (some 34) rfl rfl Tryd.func37 (by kernel_rfl) rfl #[.slice Ao10 t263.length co10, .int .i64 ((wrap64 ((wrap64 (t274 - t275)) * 1233)) / 4096)] rfl pM ?_; (with_reducible refine (dec_big_tens.calls k (fun k_ => (some k_ ≠ (.slice Ao8 t260.length co8 : Value).ownBlock ∧ (k_ ≠ gb272 ∧ k_ ≠ gb273))) _ _ t263 ((wrap64 ((wrap64 (t274 - t275)) * 1233)) / 4096) t276 _ ?side1 A19.out).mono ?_); (case side1 => exact HO265.out); rintro e w22 ⟨v277, rfl, ho0, hb⟩; refine ⟨_, rfl, ?_⟩; replace HO265 := am (Kd.V_below (pV HO265.out) hb); replace HO268 := am (Kd.V_below (pV HO268.out) hb); replace HO271 := am (Kd.V_below (pV HO271.out) hb); have HO278 := am (Kd.V_lower (Kd.V_mono (ok' := fun k_ => some k_ ≠ (.slice Ao8 t260.length co8 : Value).ownBlock ∧ k_ ≠ gb272 ∧ k_ ≠ gb273) ho0 (fun k_ hk_ => ⟨Or.elim hk_ (fun hs_ => hs_.1) (fun hn_ => (Kd.fresh' (Kd.R_lt (pR HO262.out)) k_ hn_)), Or.elim hk_ (fun hs_ => hs_.2.1) (fun hn_ => (Kd.freshB (g := gb272) (o := .cells #[.slice Ao8 t260.length co8, .slice Ao10 t263.length co10, .slice Ao11 t266.length co11, .slice Ao12 t269.length co12] 66 (0, 0)) (pK BK272.out) k_ hn_)), Or.elim hk_ (fun hs_ => hs_.2.2) (fun hn_ => (Kd.freshB (g := gb273) (o := .cells #[.bool ((Go.bits .and .u64 a0 1) == 0)] 4 (0, 0)) (pK BK273.out) k_ hn_))⟩)) (below_size pB)); replace HO262 := am (Kd.R_below (pR HO262.out) hb); replace BK272 := am (pkb BK272.out hb); replace BK273 := am (pkb BK273.out hb); replace HB := am (below_step pB hb); (try clear hb); (try clear ho0); obtain ⟨Ao23, co23, eo23⟩ := Kd.V_slice HO278.out; subst eo23; have q24 := cf4 BK272.out))
   go_meet
   case rel => exact ⟨_, (t260), (t276), (t266), (t269), (.slice Ao8 t260.length co8), (.slice Ao23 t276.length co23), (.slice Ao11 t266.length co11), (.slice Ao12 t269.length co12), H', ⟨by first | omega | exact Nat.le_refl _⟩, ⟨Kd.R_V (by (with_reducible repeat (first | apply Kd.R_alloc | apply Kd.R_drewN | apply Kd.R_drew)); exact Kd.R_mono (Kd.R_far (p := ⟨gb272, 1, none⟩) (Kd.R_types (Kd.R_types (Kd.R_types HO262.out BK272.out (by decide)) BK273.out (by decide)) BK272.out (by decide)) (fun _ hk => hk.2) (.slice Ao23 t276.length co23)) (fun _ hk => ⟨hk.1.1.2, hk.1.2⟩))⟩, ⟨by (with_reducible repeat (first | apply Kd.V_alloc | apply Kd.V_drewN | apply Kd.V_drew)); exact Kd.V_mono (Kd.V_far (p := ⟨gb272, 1, none⟩) (Kd.V_mono HO278.out (fun k_ hk => (⟨hk, hk.2.1⟩ : _ ∧ k_ ≠ gb272))) (fun _ hk => hk.2) (.slice Ao23 t276.length co23)) (fun _ hk => ⟨hk.1.2.1, hk.1.2.2⟩)⟩, ⟨by (with_reducible repeat (first | apply Kd.V_alloc | apply Kd.V_drewN | apply Kd.V_drew)); exact Kd.V_mono (Kd.V_far (p := ⟨gb272, 1, none⟩) (Kd.V_mono HO268.out (fun k_ hk => (⟨hk, hk.2.1⟩ : _ ∧ k_ ≠ gb272))) (fun _ hk => hk.2) (.slice Ao23 t276.length co23)) (fun _ hk => ⟨hk.1.2.1, hk.1.2.2⟩)⟩, ⟨by (with_reducible repeat (first | apply Kd.V_alloc | apply Kd.V_drewN | apply Kd.V_drew)); exact Kd.V_mono (Kd.V_far (p := ⟨gb272, 1, none⟩) (Kd.V_mono HO271.out (fun k_ hk => (⟨hk, hk.2.1⟩ : _ ∧ k_ ≠ gb272))) (fun _ hk => hk.2) (.slice Ao23 t276.length co23)) (fun _ hk => ⟨hk.1.2.1, hk.1.2.2⟩)⟩, ⟨by (with_reducible repeat (first | refine blk_drewN ?_ _ | refine blk_drew ?_ | refine blk_alloc ?_ _)); refine blk_put (cs := #[.slice Ao8 t260.length co8, .slice Ao10 t263.length co10, .slice Ao11 t266.length co11, .slice Ao12 t269.length co12]) ?_ 1 _ rfl; (with_reducible repeat (first | refine blk_drewN ?_ _ | refine blk_drew ?_ | refine blk_alloc ?_ _)); exact BK272.out⟩, ⟨by (with_reducible repeat (first | refine blk_drewN ?_ _ | refine blk_drew ?_ | refine blk_alloc ?_ _)); refine blk_far ?_ NB273_272.out _; (with_reducible repeat (first | refine blk_drewN ?_ _ | refine blk_drew ?_ | refine blk_alloc ?_ _)); exact BK273.out⟩, ⟨pB⟩⟩
  ·rw [if_neg c18] at H
   have c18b0 : decide (0 ≤ ((wrap64 ((wrap64 (t274 - t275)) * 1233)) / 4096)) = false := decide_eq_false c18
   clear c18
   (first | rw [c18b0] | (simp only [i64_w, i32_w]; rw [c18b0]) | rw [c18b1] | (simp only [i64_w, i32_w]; rw [c18b1]) | skip)
   replace H := Option.bind_eq_some_iff.mp H
   obtain ⟨t279, A250, H⟩ := H
   try dsimp only at H
   have A25 := am A250
   clear A250
   replace H := Option.bind_eq_some_iff.mp H
   obtain ⟨t282, A260, H⟩ := H
   try dsimp only at H
   have A26 := am A260
   clear A260
   replace H := Option.bind_eq_some_iff.mp H
   obtain ⟨t285, A270, H⟩ := H
   try dsimp only at H
   have A27 := am A270
   clear A270
   have H' := am H
   clear H
   try go_wp2
   replace HO262 := am (Kd.R_drew (Kd.R_drewN HO262.out (nd1_ + nd2_)))
   replace HO265 := am (Kd.V_drew (Kd.V_drewN HO265.out (nd1_ + nd2_)))
   replace HO268 := am (Kd.V_drew (Kd.V_drewN HO268.out (nd1_ + nd2_)))
   replace HO271 := am (Kd.V_drew (Kd.V_drewN HO271.out (nd1_ + nd2_)))
   replace BK272 := am (blk_drew (blk_drewN BK272.out (nd1_ + nd2_)))
   replace BK273 := am (blk_drew (blk_drewN BK273.out (nd1_ + nd2_)))
   replace HB := am (below_drew1 (pw_below_drewN HB.out (nd1_ + nd2_)))
   refine start_ (n := 21) (S := fun w' => w'.cell? ⟨gb272, 0, none⟩ = some (.slice Ao8 t260.length co8) ∧ w'.cell? ⟨gb272, 1, none⟩ = some (.slice Ao10 t263.length co10) ∧ w'.cell? ⟨gb272, 2, none⟩ = some (.slice Ao11 t266.length co11) ∧ w'.cell? ⟨gb272, 3, none⟩ = some (.slice Ao12 t269.length co12)) (ds := [16, 18, 20]) (bm 21 0) (by kernel_rfl) rfl rfl ⟨cz0 BK272.out, cz1 BK272.out, cz2 BK272.out, cz3 BK272.out⟩ (fun hHeld => ?_); refine with_tabW dec_shortest.tab7 dec_shortest.bits7 (fun HT_ HW_ => ?_)
   generalize (w17.drewN (nd1_ + nd2_)).drew = w28 at HO262 HO265 HO268 HO271 BK272 BK273 HB hHeld ⊢
   refine pure_ (i := 0) (N := some 36) (v := ?_) (a' := ?_) (bm 21 1) rfl rfl (any_of HT_.out (by kernel_rfl)) (fun _ _ _ h => h) (Or.inl ⟨by kernel_rfl, ?_⟩) ?_ ?_
   rotate_left
   ·intro w'
    go_simp
    with_reducible rfl
   rotate_left
   ·exact pA
   refine pure_ (i := 2) (N := some 38) (v := ?_) (a' := ?_) (bm 21 5) rfl rfl (any_of HT_.out (by kernel_rfl)) (fun _ _ _ h => h) (Or.inl ⟨by kernel_rfl, ?_⟩) ?_ ?_
   rotate_left
   ·intro w'
    go_simp
    with_reducible rfl
   rotate_left
   ·exact pA
   refine pure_ (i := 3) (N := some 39) (v := ?_) (a' := ?_) (bm 21 13) rfl rfl (any_of HT_.out (by kernel_rfl)) (fun _ _ _ h => h) (Or.inl ⟨by kernel_rfl, ?_⟩) ?_ ?_
   rotate_left
   ·intro w'
    go_simp
    with_reducible rfl
   rotate_left
   ·exact pA
   refine pure_ (i := 5) (N := some 41) (v := ?_) (a' := ?_) (bm 21 45) rfl rfl (any_of HT_.out (by kernel_rfl)) (fun _ _ _ h => h) (Or.inl ⟨by kernel_rfl, ?_⟩) ?_ ?_
   rotate_left
   ·intro w'
    go_simp
    with_reducible rfl
   rotate_left
   ·exact pA
   refine pure_ (i := 7) (N := some 43) (v := ?_) (a' := ?_) (bm 21 173) rfl rfl (any_of HT_.out (by kernel_rfl)) (fun _ _ _ h => h) (Or.inl ⟨by kernel_rfl, ?_⟩) ?_ ?_
   rotate_left
   ·intro w'
    go_simp
    with_reducible rfl
   rotate_left
   ·exact pA
   refine pure_ (i := 8) (N := some 44) (v := ?_) (a' := ?_) (bm 21 429) rfl rfl (any_of HT_.out (by kernel_rfl)) (fun _ _ _ h => h) (Or.inl ⟨by kernel_rfl, ?_⟩) ?_ ?_
   rotate_left
   ·intro w'
    go_simp
    with_reducible rfl
   rotate_left
   ·exact pA
   refine pure_ (i := 10) (N := some 46) (v := ?_) (a' := ?_) (bm 21 1453) rfl rfl (any_of HT_.out (by kernel_rfl)) (fun _ _ _ h => h) (Or.inl ⟨by kernel_rfl, ?_⟩) ?_ ?_
   rotate_left
   ·intro w'
    go_simp
    with_reducible rfl
   rotate_left
   ·exact pA
   refine pure_ (i := 12) (N := some 48) (v := ?_) (a' := ?_) (bm 21 5549) rfl rfl (any_of HT_.out (by kernel_rfl)) (fun _ _ _ h => h) (Or.inl ⟨by kernel_rfl, ?_⟩) ?_ ?_
   rotate_left
   ·intro w'
    go_simp
    with_reducible rfl
   rotate_left
   ·exact pA
   refine pure_ (i := 13) (N := some 49) (v := ?_) (a' := ?_) (bm 21 13741) rfl rfl (any_of HT_.out (by kernel_rfl)) (fun _ _ _ h => h) (Or.inl ⟨by kernel_rfl, ?_⟩) ?_ ?_
   rotate_left
   ·intro w'
    go_simp
    with_reducible rfl
   rotate_left
   ·exact pA
   refine take_ (i := 1) (N := some 37) (v := ?_) (a' := ?_) (bm 21 13743) rfl rfl (take_ofW HT_.out HW_.out (by kernel_rfl)) (fun _ _ _ h => h) (Or.inl ⟨by kernel_rfl, ?_⟩) hHeld ?_ ?_
   rotate_left
   ·rintro w' ⟨s0, s1, s2, s3⟩
    go_simp
    with_reducible rfl
   rotate_left
   ·exact pA
   refine take_ (i := 6) (N := some 42) (v := ?_) (a' := ?_) (bm 21 13807) rfl rfl (take_ofW HT_.out HW_.out (by kernel_rfl)) (fun _ _ _ h => h) (Or.inl ⟨by kernel_rfl, ?_⟩) hHeld ?_ ?_
   rotate_left
   ·rintro w' ⟨s0, s1, s2, s3⟩
    go_simp
    with_reducible rfl
   rotate_left
   ·exact pA
   refine take_ (i := 11) (N := some 47) (v := ?_) (a' := ?_) (bm 21 15855) rfl rfl (take_ofW HT_.out HW_.out (by kernel_rfl)) (fun _ _ _ h => h) (Or.inl ⟨by kernel_rfl, ?_⟩) hHeld ?_ ?_
   rotate_left
   ·rintro w' ⟨s0, s1, s2, s3⟩
    go_simp
    with_reducible rfl
   rotate_left
   ·exact pA
   refine one_ (i := 4) (N := some 40) (bm 21 15871) rfl rfl (one_of HT_.out (by kernel_rfl)) (by decide) (fun K hK => ?_)
   refine goes_ Tryd.func37 (by kernel_rfl) rfl #[.slice Ao8 t260.length co8, .int .i64 (wrap64 (-((wrap64 ((wrap64 (t274 - t275)) * 1233)) / 4096)))] (by rfl) rfl rfl pM ?_
   with_reducible refine (dec_big_tens.calls k (fun k_ => some k_ = (.slice Ao8 t260.length co8 : Value).ownBlock) _ _ t260 (wrap64 (-((wrap64 ((wrap64 (t274 - t275)) * 1233)) / 4096))) t279 _ ?side1 A25.out).mono ?_
   (case side1 => exact Kd.R_V (Kd.R_tight rfl (Kd.R_types (Kd.R_types (HO262.out) BK272.out (by decide)) BK273.out (by decide))))
   rintro e w29 ⟨v280, rfl, ho0, hb⟩
   refine ⟨_, rfl, ?_⟩
   have n0_ := am (Kd.R_below (pR HO262.out) hb)
   have n1_ := am (Kd.V_below (pV HO265.out) hb)
   have n2_ := am (Kd.V_below (pV HO268.out) hb)
   have n3_ := am (Kd.V_below (pV HO271.out) hb)
   have n4_ := am (Kd.V_lower (Kd.V_mono (ok' := fun k_ => k_ ≠ gb272 ∧ k_ ≠ gb273) ho0 (fun k_ hk_ => ⟨Or.elim hk_ (fun hs_ => ((Kd.R_types (Kd.R_types (HO262.out) BK272.out (by decide)) BK273.out (by decide)).1 k_ hs_.symm).1.2) (fun hn_ => (Kd.freshB (g := gb272) (o := .cells #[.slice Ao8 t260.length co8, .slice Ao10 t263.length co10, .slice Ao11 t266.length co11, .slice Ao12 t269.length co12] 66 (0, 0)) (pK BK272.out) k_ hn_)), Or.elim hk_ (fun hs_ => ((Kd.R_types (Kd.R_types (HO262.out) BK272.out (by decide)) BK273.out (by decide)).1 k_ hs_.symm).2) (fun hn_ => (Kd.freshB (g := gb273) (o := .cells #[.bool ((Go.bits .and .u64 a0 1) == 0)] 4 (0, 0)) (pK BK273.out) k_ hn_))⟩)) (below_size pB))
   have n5_ := am (pkb BK272.out hb)
   have n6_ := am (pkb BK273.out hb)
   have n7_ := am (below_step pB hb)
   clear HO262 HO265 HO268 HO271 BK272 BK273 HB; have HO262 := n0_; have HO265 := n1_; have HO268 := n2_; have HO271 := n3_; have HO281 := n4_; have BK272 := n5_; have BK273 := n6_; have HB := n7_; clear n0_ n1_ n2_ n3_ n4_ n5_ n6_ n7_; (try clear hb); (try clear ho0)
   refine hK.out _ _ ⟨cz0 BK272.out, cz1 BK272.out, cz2 BK272.out, cz3 BK272.out⟩ (fun hHeld => ?_)
   clear hK K
   refine norm_ (a' := ?_) ?_ ?_
   rotate_left
   ·show Act.put _ (some 40) _ = _
    exact pA
   refine pure_ (i := 15) (N := some 51) (v := ?_) (a' := ?_) (bm 21 48639) rfl rfl (any_of HT_.out (by kernel_rfl)) (fun _ _ _ h => h) (Or.inl ⟨by kernel_rfl, ?_⟩) ?_ ?_
   rotate_left
   ·intro w'
    go_simp
    with_reducible rfl
   rotate_left
   ·exact pA
   refine one_ (i := 9) (N := some 45) (bm 21 49151) rfl rfl (one_of HT_.out (by kernel_rfl)) (by decide) (fun K hK => ?_)
   refine goes_ Tryd.func37 (by kernel_rfl) rfl #[.slice Ao11 t266.length co11, .int .i64 (wrap64 (-((wrap64 ((wrap64 (t274 - t275)) * 1233)) / 4096)))] (by rfl) rfl rfl pM ?_
   with_reducible refine (dec_big_tens.calls k (fun k_ => (some k_ ≠ (.slice Ao8 t260.length co8 : Value).ownBlock ∧ (k_ ≠ gb272 ∧ k_ ≠ gb273))) _ _ t266 (wrap64 (-((wrap64 ((wrap64 (t274 - t275)) * 1233)) / 4096))) t282 _ ?side1 A26.out).mono ?_
   (case side1 => exact HO268.out)
   rintro e w30 ⟨v283, rfl, ho0, hb⟩
   refine ⟨_, rfl, ?_⟩
   have n0_ := am (Kd.R_below (pR HO262.out) hb)
   have n1_ := am (Kd.V_below (pV HO265.out) hb)
   have n2_ := am (Kd.V_below (pV HO268.out) hb)
   have n3_ := am (Kd.V_below (pV HO271.out) hb)
   have n4_ := am (Kd.V_below (pV HO281.out) hb)
   have n5_ := am (Kd.V_lower (Kd.V_mono (ok' := fun k_ => some k_ ≠ (.slice Ao8 t260.length co8 : Value).ownBlock ∧ k_ ≠ gb272 ∧ k_ ≠ gb273) ho0 (fun k_ hk_ => ⟨Or.elim hk_ (fun hs_ => hs_.1) (fun hn_ => (Kd.fresh' (Kd.R_lt (pR HO262.out)) k_ hn_)), Or.elim hk_ (fun hs_ => hs_.2.1) (fun hn_ => (Kd.freshB (g := gb272) (o := .cells #[.slice Ao8 t260.length co8, .slice Ao10 t263.length co10, .slice Ao11 t266.length co11, .slice Ao12 t269.length co12] 66 (0, 0)) (pK BK272.out) k_ hn_)), Or.elim hk_ (fun hs_ => hs_.2.2) (fun hn_ => (Kd.freshB (g := gb273) (o := .cells #[.bool ((Go.bits .and .u64 a0 1) == 0)] 4 (0, 0)) (pK BK273.out) k_ hn_))⟩)) (below_size pB))
   have n6_ := am (pkb BK272.out hb)
   have n7_ := am (pkb BK273.out hb)
   have n8_ := am (below_step pB hb)
   clear HO262 HO265 HO268 HO271 HO281 BK272 BK273 HB; have HO262 := n0_; have HO265 := n1_; have HO268 := n2_; have HO271 := n3_; have HO281 := n4_; have HO284 := n5_; have BK272 := n6_; have BK273 := n7_; have HB := n8_; clear n0_ n1_ n2_ n3_ n4_ n5_ n6_ n7_ n8_; (try clear hb); (try clear ho0)
   refine hK.out _ _ ⟨cz0 BK272.out, cz1 BK272.out, cz2 BK272.out, cz3 BK272.out⟩ (fun hHeld => ?_)
   clear hK K
   refine norm_ (a' := ?_) ?_ ?_
   rotate_left
   ·show Act.put _ (some 45) _ = _
    exact pA
   refine one_ (i := 14) (N := some 50) (bm 21 65535) rfl rfl (one_of HT_.out (by kernel_rfl)) (by decide) (fun K hK => ?_)
   refine goes_ Tryd.func37 (by kernel_rfl) rfl #[.slice Ao12 t269.length co12, .int .i64 (wrap64 (-((wrap64 ((wrap64 (t274 - t275)) * 1233)) / 4096)))] (by rfl) rfl rfl pM ?_
   with_reducible refine (dec_big_tens.calls k (fun k_ => (some k_ ≠ (.slice Ao8 t260.length co8 : Value).ownBlock ∧ (k_ ≠ gb272 ∧ k_ ≠ gb273))) _ _ t269 (wrap64 (-((wrap64 ((wrap64 (t274 - t275)) * 1233)) / 4096))) t285 _ ?side1 A27.out).mono ?_
   (case side1 => exact HO271.out)
   rintro e w31 ⟨v286, rfl, ho0, hb⟩
   refine ⟨_, rfl, ?_⟩
   have n0_ := am (Kd.R_below (pR HO262.out) hb)
   have n1_ := am (Kd.V_below (pV HO265.out) hb)
   have n2_ := am (Kd.V_below (pV HO268.out) hb)
   have n3_ := am (Kd.V_below (pV HO271.out) hb)
   have n4_ := am (Kd.V_below (pV HO281.out) hb)
   have n5_ := am (Kd.V_below (pV HO284.out) hb)
   have n6_ := am (Kd.V_lower (Kd.V_mono (ok' := fun k_ => some k_ ≠ (.slice Ao8 t260.length co8 : Value).ownBlock ∧ k_ ≠ gb272 ∧ k_ ≠ gb273) ho0 (fun k_ hk_ => ⟨Or.elim hk_ (fun hs_ => hs_.1) (fun hn_ => (Kd.fresh' (Kd.R_lt (pR HO262.out)) k_ hn_)), Or.elim hk_ (fun hs_ => hs_.2.1) (fun hn_ => (Kd.freshB (g := gb272) (o := .cells #[.slice Ao8 t260.length co8, .slice Ao10 t263.length co10, .slice Ao11 t266.length co11, .slice Ao12 t269.length co12] 66 (0, 0)) (pK BK272.out) k_ hn_)), Or.elim hk_ (fun hs_ => hs_.2.2) (fun hn_ => (Kd.freshB (g := gb273) (o := .cells #[.bool ((Go.bits .and .u64 a0 1) == 0)] 4 (0, 0)) (pK BK273.out) k_ hn_))⟩)) (below_size pB))
   have n7_ := am (pkb BK272.out hb)
   have n8_ := am (pkb BK273.out hb)
   have n9_ := am (below_step pB hb)
   clear HO262 HO265 HO268 HO271 HO281 HO284 BK272 BK273 HB; have HO262 := n0_; have HO265 := n1_; have HO268 := n2_; have HO271 := n3_; have HO281 := n4_; have HO284 := n5_; have HO287 := n6_; have BK272 := n7_; have BK273 := n8_; have HB := n9_; clear n0_ n1_ n2_ n3_ n4_ n5_ n6_ n7_ n8_ n9_; (try clear hb); (try clear ho0)
   obtain ⟨Ao32, co32, eo32⟩ := Kd.V_slice HO281.out
   (first | subst eo32 | (injection eo32 with f1_ f2_ f3_; have f4_ := f1_.symm; have f5_ := f3_.symm; clear f1_ f2_ f3_; subst f4_; subst f5_))
   obtain ⟨Ao34, co34, eo34⟩ := Kd.V_slice HO284.out
   (first | subst eo34 | (injection eo34 with f1_ f2_ f3_; have f4_ := f1_.symm; have f5_ := f3_.symm; clear f1_ f2_ f3_; subst f4_; subst f5_))
   obtain ⟨Ao36, co36, eo36⟩ := Kd.V_slice HO287.out
   (first | subst eo36 | (injection eo36 with f1_ f2_ f3_; have f4_ := f1_.symm; have f5_ := f3_.symm; clear f1_ f2_ f3_; subst f4_; subst f5_))
   refine hK.out _ _ ⟨cz0 BK272.out, cz1 BK272.out, cz2 BK272.out, cz3 BK272.out⟩ (fun hHeld => ?_)
   clear hK K
   refine norm_ (a' := ?_) ?_ ?_
   rotate_left
   ·show Act.put _ (some 50) _ = _
    exact pA
   refine last_ (i := 16) (N := none) (bm 21 131071) rfl rfl (one_of HT_.out (by kernel_rfl)) (by decide) (fun K hK => ?_)
   have hs33 : w31.cell? ⟨gb272, 0, none⟩ = some (.slice Ao8 t260.length co8) := cz0 BK272.out
   have hfs33 := blk_frozen BK272.out 0
   have hns33_1 := NB273_272.out
   have hms33_1 := NB272_273.out
   refine skip_ (w1 := ?_) ?hw rfl ?_ ?_; (case hw => kernel_rfl)
   rotate_left
   ·go_simp
    rfl
   refine hK.out _ _ ?_
   clear hK K
   refine pure_ (i := 17) (N := some 52) (v := ?_) (a' := ?_) (bm 21 262143) rfl rfl (any_of HT_.out (by kernel_rfl)) (fun _ _ _ h => h) (Or.inl ⟨by kernel_rfl, ?_⟩) ?_ ?_
   rotate_left
   ·intro w'
    go_simp
    with_reducible rfl
   rotate_left
   ·exact pA
   refine last_ (i := 18) (N := none) (bm 21 524287) rfl rfl (one_of HT_.out (by kernel_rfl)) (by decide) (fun K hK => ?_)
   have hs35 : w31.cell? ⟨gb272, 2, none⟩ = some (.slice Ao11 t266.length co11) := cz2 BK272.out
   have hfs35 := blk_frozen BK272.out 2
   have hns35_1 := NB273_272.out
   have hms35_1 := NB272_273.out
   refine skip_ (w1 := ?_) ?hw rfl ?_ ?_; (case hw => kernel_rfl)
   rotate_left
   ·go_simp
    rfl
   refine hK.out _ _ ?_
   clear hK K
   refine pure_ (i := 19) (N := some 53) (v := ?_) (a' := ?_) (bm 21 1048575) rfl rfl (any_of HT_.out (by kernel_rfl)) (fun _ _ _ h => h) (Or.inl ⟨by kernel_rfl, ?_⟩) ?_ ?_
   rotate_left
   ·intro w'
    go_simp
    with_reducible rfl
   rotate_left
   ·exact pA
   refine last_ (i := 20) (N := none) (bm 21 2097151) rfl rfl (one_of HT_.out (by kernel_rfl)) (by decide) (fun K hK => ?_)
   have hs37 : w31.cell? ⟨gb272, 3, none⟩ = some (.slice Ao12 t269.length co12) := cz3 BK272.out
   have hfs37 := blk_frozen BK272.out 3
   have hns37_1 := NB273_272.out
   have hms37_1 := NB272_273.out
   refine skip_ (w1 := ?_) ?hw rfl ?_ ?_; (case hw => kernel_rfl)
   rotate_left
   ·go_simp
    rfl
   refine hK.out _ _ ?_
   clear hK K
   refine done_ (done_of HT_.out (by kernel_rfl)) ?_
   try go_wp2
   go_meet
   case rel => exact ⟨_, (t279), (t263), (t282), (t285), (.slice Ao32 t279.length co32), (.slice Ao10 t263.length co10), (.slice Ao34 t282.length co34), (.slice Ao36 t285.length co36), H', ⟨by first | omega | exact Nat.le_refl _⟩, ⟨by (with_reducible repeat (first | apply Kd.V_alloc | apply Kd.V_drewN | apply Kd.V_drew)); exact Kd.V_mono (Kd.V_far (p := ⟨gb272, 3, none⟩) (Kd.V_far (p := ⟨gb272, 2, none⟩) (Kd.V_far (p := ⟨gb272, 0, none⟩) (Kd.V_mono HO281.out (fun k_ hk => (⟨hk, hk.1⟩ : _ ∧ k_ ≠ gb272))) (fun _ hk => hk.2) (.slice Ao32 t279.length co32)) (fun _ hk => hk.2) (.slice Ao34 t282.length co34)) (fun _ hk => hk.2) (.slice Ao36 t285.length co36)) (fun _ hk => ⟨hk.1.1, hk.1.2⟩)⟩, ⟨by (with_reducible repeat (first | apply Kd.V_alloc | apply Kd.V_drewN | apply Kd.V_drew)); exact Kd.V_mono (Kd.V_far (p := ⟨gb272, 3, none⟩) (Kd.V_far (p := ⟨gb272, 2, none⟩) (Kd.V_far (p := ⟨gb272, 0, none⟩) (Kd.V_mono HO265.out (fun k_ hk => (⟨hk, hk.2.1⟩ : _ ∧ k_ ≠ gb272))) (fun _ hk => hk.2) (.slice Ao32 t279.length co32)) (fun _ hk => hk.2) (.slice Ao34 t282.length co34)) (fun _ hk => hk.2) (.slice Ao36 t285.length co36)) (fun _ hk => ⟨hk.1.2.1, hk.1.2.2⟩)⟩, ⟨by (with_reducible repeat (first | apply Kd.V_alloc | apply Kd.V_drewN | apply Kd.V_drew)); exact Kd.V_mono (Kd.V_far (p := ⟨gb272, 3, none⟩) (Kd.V_far (p := ⟨gb272, 2, none⟩) (Kd.V_far (p := ⟨gb272, 0, none⟩) (Kd.V_mono HO284.out (fun k_ hk => (⟨hk, hk.2.1⟩ : _ ∧ k_ ≠ gb272))) (fun _ hk => hk.2) (.slice Ao32 t279.length co32)) (fun _ hk => hk.2) (.slice Ao34 t282.length co34)) (fun _ hk => hk.2) (.slice Ao36 t285.length co36)) (fun _ hk => ⟨hk.1.2.1, hk.1.2.2⟩)⟩, ⟨by (with_reducible repeat (first | apply Kd.V_alloc | apply Kd.V_drewN | apply Kd.V_drew)); exact Kd.V_mono (Kd.V_far (p := ⟨gb272, 3, none⟩) (Kd.V_far (p := ⟨gb272, 2, none⟩) (Kd.V_far (p := ⟨gb272, 0, none⟩) (Kd.V_mono HO287.out (fun k_ hk => (⟨hk, hk.2.1⟩ : _ ∧ k_ ≠ gb272))) (fun _ hk => hk.2) (.slice Ao32 t279.length co32)) (fun _ hk => hk.2) (.slice Ao34 t282.length co34)) (fun _ hk => hk.2) (.slice Ao36 t285.length co36)) (fun _ hk => ⟨hk.1.2.1, hk.1.2.2⟩)⟩, ⟨by (with_reducible repeat (first | refine blk_drewN ?_ _ | refine blk_drew ?_ | refine blk_alloc ?_ _)); refine blk_put (cs := #[.slice Ao32 t279.length co32, .slice Ao10 t263.length co10, .slice Ao34 t282.length co34, .slice Ao12 t269.length co12]) ?_ 3 _ rfl; (with_reducible repeat (first | refine blk_drewN ?_ _ | refine blk_drew ?_ | refine blk_alloc ?_ _)); refine blk_put (cs := #[.slice Ao32 t279.length co32, .slice Ao10 t263.length co10, .slice Ao11 t266.length co11, .slice Ao12 t269.length co12]) ?_ 2 _ rfl; (with_reducible repeat (first | refine blk_drewN ?_ _ | refine blk_drew ?_ | refine blk_alloc ?_ _)); refine blk_put (cs := #[.slice Ao8 t260.length co8, .slice Ao10 t263.length co10, .slice Ao11 t266.length co11, .slice Ao12 t269.length co12]) ?_ 0 _ rfl; (with_reducible repeat (first | refine blk_drewN ?_ _ | refine blk_drew ?_ | refine blk_alloc ?_ _)); exact BK272.out⟩, ⟨by (with_reducible repeat (first | refine blk_drewN ?_ _ | refine blk_drew ?_ | refine blk_alloc ?_ _)); refine blk_far ?_ NB273_272.out _; (with_reducible repeat (first | refine blk_drewN ?_ _ | refine blk_drew ?_ | refine blk_alloc ?_ _)); refine blk_far ?_ NB273_272.out _; (with_reducible repeat (first | refine blk_drewN ?_ _ | refine blk_drew ?_ | refine blk_alloc ?_ _)); refine blk_far ?_ NB273_272.out _; (with_reducible repeat (first | refine blk_drewN ?_ _ | refine blk_drew ?_ | refine blk_alloc ?_ _)); exact BK273.out⟩, ⟨pB⟩⟩
 case rest =>
  clear HC5
  try clear c1
  try clear c2
  try clear p2
  try clear c3
  try clear p6
  try clear c14
  try clear c16
  try clear c18
  try clear c18b0
  try clear c18b1
  try clear c20
  try clear c32
  try clear c36
  try clear c37
  try clear q15 q21 q24 q9
  obtain ⟨kq, x273000_4, x273001_4, x273002_4, x273003_4, u273000, u273001, u273002, u273003, HA, HJ4, HO_273000, HO_273001, HO_273002, HO_273003, BK272, BK273, HB⟩ := hcut
  cases kq with
  | zero => exact absurd HA.out (by simp [dec_shortest.j0])
  | succ kj4 =>
   have H := HA.out
   clear HA
   simp only [dec_shortest.j0] at H
   have H' := am H
   clear H
   go_wp2
   go_loopg [7] kj4 (fun kq v7 w' => ∃ (x7_2 : Int) (x273001_2 : List Int) (u273001 : Value), v7 = .int .i64 x7_2 ∧ Aside0 (dec_shortest.l0 kq x7_2 x273000_4 x273001_2 x273002_4 x273003_4 ((Go.bits .and .u64 a0 1) == 0) = some (r1, r2)) ∧ Aside0 (kq ≤ kj4) ∧ Aside0 (Kd.V (Kd.int .u32) 74 w' w.heap.size (fun k_ => k_ ≠ gb272 ∧ k_ ≠ gb273) u273000 x273000_4) ∧ Aside0 (Kd.V (Kd.int .u32) 74 w' w.heap.size (fun k_ => k_ ≠ gb272 ∧ k_ ≠ gb273) u273001 x273001_2) ∧ Aside0 (Kd.V (Kd.int .u32) 74 w' w.heap.size (fun k_ => k_ ≠ gb272 ∧ k_ ≠ gb273) u273002 x273002_4) ∧ Aside0 (Kd.V (Kd.int .u32) 74 w' w.heap.size (fun k_ => k_ ≠ gb272 ∧ k_ ≠ gb273) u273003 x273003_4) ∧ Aside0 (w'.heap[gb272]? = some (.cells #[u273000, u273001, u273002, u273003] 66 (0, 0))) ∧ Aside0 (w'.heap[gb273]? = some (.cells #[.bool ((Go.bits .and .u64 a0 1) == 0)] 4 (0, 0))) ∧ Aside0 (Below w.heap.size w w'))
   case atStart => exact ⟨(((wrap64 ((wrap64 (t274 - t275)) * 1233)) / 4096)), (x273001_4), (u273001), (by first | rfl | (simp; done) | (simp [*]; done)), H', ⟨Nat.le_refl _⟩, ⟨by (with_reducible repeat (first | apply Kd.V_alloc | apply Kd.V_drewN | apply Kd.V_drew)); exact HO_273000.out⟩, ⟨by (with_reducible repeat (first | apply Kd.V_alloc | apply Kd.V_drewN | apply Kd.V_drew)); exact HO_273001.out⟩, ⟨by (with_reducible repeat (first | apply Kd.V_alloc | apply Kd.V_drewN | apply Kd.V_drew)); exact HO_273002.out⟩, ⟨by (with_reducible repeat (first | apply Kd.V_alloc | apply Kd.V_drewN | apply Kd.V_drew)); exact HO_273003.out⟩, ⟨by (with_reducible repeat (first | refine blk_drewN ?_ _ | refine blk_drew ?_ | refine blk_alloc ?_ _)); exact BK272.out⟩, ⟨by (with_reducible repeat (first | refine blk_drewN ?_ _ | refine blk_drew ?_ | refine blk_alloc ?_ _)); exact BK273.out⟩, ⟨pB⟩⟩
   case round =>
    clear H'
    try clear c1
    try clear c2
    try clear p2
    try clear c3
    try clear p6
    try clear c14
    try clear c16
    try clear c18
    try clear c18b0
    try clear c18b1
    try clear c20
    try clear c32
    try clear c36
    try clear c37
    try clear q15 q21 q24 q9
    try clear p2
    try clear p6
    obtain ⟨x7_2, x273001_2, u273001, rfl, HA, HK2, HO_273000, HO_273001, HO_273002, HO_273003, BK272, BK273, HB⟩ := hrel
    cases gk with
    | zero => exact absurd HA.out (by simp [dec_shortest.l0])
    | succ k2 =>
     have H := HA.out
     clear HA
     simp only [dec_shortest.l0] at H
     replace H := Option.bind_eq_some_iff.mp H
     obtain ⟨t288, A380, H⟩ := H
     try dsimp only at H
     have A38 := am A380
     clear A380
     replace H := Option.bind_eq_some_iff.mp H
     obtain ⟨t291, A390, H⟩ := H
     try dsimp only at H
     have A39 := am A390
     clear A390
     by_cases c40 : t291 = true
     ·subst c40
      rw [if_pos rfl] at H
      replace H := Option.bind_eq_some_iff.mp H
      obtain ⟨t292, A410, H⟩ := H
      try dsimp only at H
      have A41 := am A410
      clear A410
      have H' := am H
      clear H
      have hnb42 := NB272_273.out
      have hnc42 := NB273_272.out
      have q43 := cf4 BK272.out
      obtain ⟨Ao44, co44, eo44⟩ := Kd.V_slice HO_273001.out
      subst eo44
      go_wp2_with (first | ((with_reducible refine gate_callee (f := 38) rfl ?_); refine goesL_ (some 57) rfl rfl Tryd.func38 (by kernel_rfl) rfl #[.slice Ao44 x273001_2.length co44, .int .u32 10, .int .u32 0] rfl pM ?_; (with_reducible refine (dec_big_times.calls k2 _ _ x273001_2 10 0 t288 _ ?side1 ?side2 A38.out).mono ?_); (case side1 => repeat (first | exact (Kd.V_reads' HO_273001.out).2.2 | (with_reducible refine Kd.C_alloc ?_ _) | (with_reducible refine Kd.C_drewN ?_ _) | (with_reducible refine Kd.C_drew ?_))); (case side2 => exact (Kd.V_reads' HO_273001.out).2.1); rintro e w45 ⟨v289, rfl, ho0, hb⟩; refine ⟨_, rfl, ?_⟩; replace HO_273000 := am (Kd.V_below (pV HO_273000.out) hb); replace HO_273001 := am (Kd.V_below (pV HO_273001.out) hb); replace HO_273002 := am (Kd.V_below (pV HO_273002.out) hb); replace HO_273003 := am (Kd.V_below (pV HO_273003.out) hb); have HO290 := am (Kd.V_lower (Kd.V_mono (ok' := fun k_ => k_ ≠ gb272 ∧ k_ ≠ gb273) ho0 (fun k_ hk_ => ⟨(Kd.freshB (g := gb272) (o := .cells #[u273000, .slice Ao44 x273001_2.length co44, u273002, u273003] 66 (0, 0)) (pK BK272.out) k_ hk_), (Kd.freshB (g := gb273) (o := .cells #[.bool ((Go.bits .and .u64 a0 1) == 0)] 4 (0, 0)) (pK BK273.out) k_ hk_)⟩)) (below_size pB)); replace BK272 := am (pkb BK272.out hb); replace BK273 := am (pkb BK273.out hb); replace HB := am (below_step pB hb); (try clear hb); (try clear ho0); have q46 := cf4 BK272.out; have q47 := cf1 BK273.out; obtain ⟨Ao48, co48, eo48⟩ := Kd.V_slice HO290.out; subst eo48; obtain ⟨Ao49, co49, eo49⟩ := Kd.V_slice HO_273000.out; subst eo49; obtain ⟨Ao50, co50, eo50⟩ := Kd.V_slice HO_273003.out; subst eo50) | (go_at_call 33; (with_reducible refine (dec_high.calls k2 _ _ t288 Ao49 co49 x273000_4 Ao50 co50 x273003_4 ((Go.bits .and .u64 a0 1) == 0) true _ ?side1 ?side2 ?side3 ?side4 ?side5 ?side6 A39.out gb272 gb273 ?side7 ?side8 ?side9).mono ?_); (case side7 => first | exact cz0 BK272.out | exact (blk_cell (pK BK272.out) 0).trans rfl); (case side8 => first | exact cz3 BK272.out | exact (blk_cell (pK BK272.out) 3).trans rfl); (case side9 => first | exact cz0 BK273.out | exact (blk_cell (pK BK273.out) 0).trans rfl); (case side1 => repeat (first | exact (Kd.V_reads' HO290.out).2.2 | (with_reducible refine Kd.C_alloc ?_ _) | (with_reducible refine Kd.C_drewN ?_ _) | (with_reducible refine Kd.C_drew ?_))); (case side2 => exact (Kd.V_reads' HO290.out).2.1); (case side3 => repeat (first | exact (Kd.V_reads' HO_273000.out).2.2 | (with_reducible refine Kd.C_alloc ?_ _) | (with_reducible refine Kd.C_drewN ?_ _) | (with_reducible refine Kd.C_drew ?_))); (case side4 => exact (Kd.V_reads' HO_273000.out).2.1); (case side5 => repeat (first | exact (Kd.V_reads' HO_273003.out).2.2 | (with_reducible refine Kd.C_alloc ?_ _) | (with_reducible refine Kd.C_drewN ?_ _) | (with_reducible refine Kd.C_drew ?_))); (case side6 => exact (Kd.V_reads' HO_273003.out).2.1); rintro e w51 ⟨rfl, hb⟩; replace HO_273000 := am (Kd.V_below (pV HO_273000.out) hb); replace HO_273001 := am (Kd.V_below (pV HO_273001.out) hb); replace HO_273002 := am (Kd.V_below (pV HO_273002.out) hb); replace HO_273003 := am (Kd.V_below (pV HO_273003.out) hb); replace HO290 := am (Kd.V_below (pV HO290.out) hb); replace BK272 := am (pkb BK272.out hb); replace BK273 := am (pkb BK273.out hb); replace HB := am (below_step pB hb); (try clear hb); have q52 := cf4 BK272.out) | ((with_reducible refine gate_callee (f := 38) rfl ?_); refine goesL_ (some 61) rfl rfl Tryd.func38 (by kernel_rfl) rfl #[.slice Ao44 x273001_2.length co44, .int .u32 10, .int .u32 0] rfl pM ?_; (with_reducible refine (dec_big_times.calls k2 _ _ x273001_2 10 0 t292 _ ?side1 ?side2 A41.out).mono ?_); (case side1 => repeat (first | exact (Kd.V_reads' HO_273001.out).2.2 | (with_reducible refine Kd.C_alloc ?_ _) | (with_reducible refine Kd.C_drewN ?_ _) | (with_reducible refine Kd.C_drew ?_))); (case side2 => exact (Kd.V_reads' HO_273001.out).2.1); rintro e w53 ⟨v293, rfl, ho0, hb⟩; refine ⟨_, rfl, ?_⟩; replace HO_273000 := am (Kd.V_below (pV HO_273000.out) hb); replace HO_273001 := am (Kd.V_below (pV HO_273001.out) hb); replace HO_273002 := am (Kd.V_below (pV HO_273002.out) hb); replace HO_273003 := am (Kd.V_below (pV HO_273003.out) hb); replace HO290 := am (Kd.V_below (pV HO290.out) hb); have HO294 := am (Kd.V_lower (Kd.V_mono (ok' := fun k_ => k_ ≠ gb272 ∧ k_ ≠ gb273) ho0 (fun k_ hk_ => ⟨(Kd.freshB (g := gb272) (o := .cells #[.slice Ao49 x273000_4.length co49, .slice Ao44 x273001_2.length co44, u273002, .slice Ao50 x273003_4.length co50] 66 (0, 0)) (pK BK272.out) k_ hk_), (Kd.freshB (g := gb273) (o := .cells #[.bool ((Go.bits .and .u64 a0 1) == 0)] 4 (0, 0)) (pK BK273.out) k_ hk_)⟩)) (below_size pB)); replace BK272 := am (pkb BK272.out hb); replace BK273 := am (pkb BK273.out hb); replace HB := am (below_step pB hb); (try clear hb); (try clear ho0); obtain ⟨Ao54, co54, eo54⟩ := Kd.V_slice HO294.out; subst eo54; have q55 := cf4 BK272.out))
      go_roundg k2
      case measure => have := HJ4.out; have := HK2.out; omega
      case rel => exact ⟨(wrap64 (x7_2 + 1)), (t292), (.slice Ao54 t292.length co54), (by first | rfl | (simp; done) | (simp [*]; done)), H', ⟨by have := HJ4.out; have := HK2.out; omega⟩, ⟨by (with_reducible repeat (first | apply Kd.V_alloc | apply Kd.V_drewN | apply Kd.V_drew)); exact Kd.V_mono (Kd.V_far (p := ⟨gb272, 1, none⟩) (Kd.V_mono HO_273000.out (fun k_ hk => (⟨hk, hk.1⟩ : _ ∧ k_ ≠ gb272))) (fun _ hk => hk.2) (.slice Ao54 t292.length co54)) (fun _ hk => ⟨hk.1.1, hk.1.2⟩)⟩, ⟨by (with_reducible repeat (first | apply Kd.V_alloc | apply Kd.V_drewN | apply Kd.V_drew)); exact Kd.V_mono (Kd.V_far (p := ⟨gb272, 1, none⟩) (Kd.V_mono HO294.out (fun k_ hk => (⟨hk, hk.1⟩ : _ ∧ k_ ≠ gb272))) (fun _ hk => hk.2) (.slice Ao54 t292.length co54)) (fun _ hk => ⟨hk.1.1, hk.1.2⟩)⟩, ⟨by (with_reducible repeat (first | apply Kd.V_alloc | apply Kd.V_drewN | apply Kd.V_drew)); exact Kd.V_mono (Kd.V_far (p := ⟨gb272, 1, none⟩) (Kd.V_mono HO_273002.out (fun k_ hk => (⟨hk, hk.1⟩ : _ ∧ k_ ≠ gb272))) (fun _ hk => hk.2) (.slice Ao54 t292.length co54)) (fun _ hk => ⟨hk.1.1, hk.1.2⟩)⟩, ⟨by (with_reducible repeat (first | apply Kd.V_alloc | apply Kd.V_drewN | apply Kd.V_drew)); exact Kd.V_mono (Kd.V_far (p := ⟨gb272, 1, none⟩) (Kd.V_mono HO_273003.out (fun k_ hk => (⟨hk, hk.1⟩ : _ ∧ k_ ≠ gb272))) (fun _ hk => hk.2) (.slice Ao54 t292.length co54)) (fun _ hk => ⟨hk.1.1, hk.1.2⟩)⟩, ⟨by (with_reducible repeat (first | refine blk_drewN ?_ _ | refine blk_drew ?_ | refine blk_alloc ?_ _)); refine blk_put (cs := #[.slice Ao49 x273000_4.length co49, .slice Ao44 x273001_2.length co44, u273002, .slice Ao50 x273003_4.length co50]) ?_ 1 _ rfl; (with_reducible repeat (first | refine blk_drewN ?_ _ | refine blk_drew ?_ | refine blk_alloc ?_ _)); exact BK272.out⟩, ⟨by (with_reducible repeat (first | refine blk_drewN ?_ _ | refine blk_drew ?_ | refine blk_alloc ?_ _)); refine blk_far ?_ NB273_272.out _; (with_reducible repeat (first | refine blk_drewN ?_ _ | refine blk_drew ?_ | refine blk_alloc ?_ _)); exact BK273.out⟩, ⟨pB⟩⟩
     ·replace c40 := Bool.eq_false_iff.mpr c40
      subst c40
      rw [if_neg (show ¬ (false = true) by decide)] at H
      have H' := am H
      clear H
      have hnb56 := NB272_273.out
      have hnc56 := NB273_272.out
      have q57 := cf4 BK272.out
      obtain ⟨Ao58, co58, eo58⟩ := Kd.V_slice HO_273001.out
      subst eo58
      go_wp2_with (first | ((with_reducible refine gate_callee (f := 38) rfl ?_); refine goesL_ (some 57) rfl rfl Tryd.func38 (by kernel_rfl) rfl #[.slice Ao58 x273001_2.length co58, .int .u32 10, .int .u32 0] rfl pM ?_; (with_reducible refine (dec_big_times.calls k2 _ _ x273001_2 10 0 t288 _ ?side1 ?side2 A38.out).mono ?_); (case side1 => repeat (first | exact (Kd.V_reads' HO_273001.out).2.2 | (with_reducible refine Kd.C_alloc ?_ _) | (with_reducible refine Kd.C_drewN ?_ _) | (with_reducible refine Kd.C_drew ?_))); (case side2 => exact (Kd.V_reads' HO_273001.out).2.1); rintro e w59 ⟨v289, rfl, ho0, hb⟩; refine ⟨_, rfl, ?_⟩; replace HO_273000 := am (Kd.V_below (pV HO_273000.out) hb); replace HO_273001 := am (Kd.V_below (pV HO_273001.out) hb); replace HO_273002 := am (Kd.V_below (pV HO_273002.out) hb); replace HO_273003 := am (Kd.V_below (pV HO_273003.out) hb); have HO290 := am (Kd.V_lower (Kd.V_mono (ok' := fun k_ => k_ ≠ gb272 ∧ k_ ≠ gb273) ho0 (fun k_ hk_ => ⟨(Kd.freshB (g := gb272) (o := .cells #[u273000, .slice Ao58 x273001_2.length co58, u273002, u273003] 66 (0, 0)) (pK BK272.out) k_ hk_), (Kd.freshB (g := gb273) (o := .cells #[.bool ((Go.bits .and .u64 a0 1) == 0)] 4 (0, 0)) (pK BK273.out) k_ hk_)⟩)) (below_size pB)); replace BK272 := am (pkb BK272.out hb); replace BK273 := am (pkb BK273.out hb); replace HB := am (below_step pB hb); (try clear hb); (try clear ho0); have q60 := cf4 BK272.out; have q61 := cf1 BK273.out; obtain ⟨Ao62, co62, eo62⟩ := Kd.V_slice HO290.out; subst eo62; obtain ⟨Ao63, co63, eo63⟩ := Kd.V_slice HO_273000.out; subst eo63; obtain ⟨Ao64, co64, eo64⟩ := Kd.V_slice HO_273003.out; subst eo64) | (go_at_call 33; (with_reducible refine (dec_high.calls k2 _ _ t288 Ao63 co63 x273000_4 Ao64 co64 x273003_4 ((Go.bits .and .u64 a0 1) == 0) false _ ?side1 ?side2 ?side3 ?side4 ?side5 ?side6 A39.out gb272 gb273 ?side7 ?side8 ?side9).mono ?_); (case side7 => first | exact cz0 BK272.out | exact (blk_cell (pK BK272.out) 0).trans rfl); (case side8 => first | exact cz3 BK272.out | exact (blk_cell (pK BK272.out) 3).trans rfl); (case side9 => first | exact cz0 BK273.out | exact (blk_cell (pK BK273.out) 0).trans rfl); (case side1 => repeat (first | exact (Kd.V_reads' HO290.out).2.2 | (with_reducible refine Kd.C_alloc ?_ _) | (with_reducible refine Kd.C_drewN ?_ _) | (with_reducible refine Kd.C_drew ?_))); (case side2 => exact (Kd.V_reads' HO290.out).2.1); (case side3 => repeat (first | exact (Kd.V_reads' HO_273000.out).2.2 | (with_reducible refine Kd.C_alloc ?_ _) | (with_reducible refine Kd.C_drewN ?_ _) | (with_reducible refine Kd.C_drew ?_))); (case side4 => exact (Kd.V_reads' HO_273000.out).2.1); (case side5 => repeat (first | exact (Kd.V_reads' HO_273003.out).2.2 | (with_reducible refine Kd.C_alloc ?_ _) | (with_reducible refine Kd.C_drewN ?_ _) | (with_reducible refine Kd.C_drew ?_))); (case side6 => exact (Kd.V_reads' HO_273003.out).2.1); rintro e w65 ⟨rfl, hb⟩; replace HO_273000 := am (Kd.V_below (pV HO_273000.out) hb); replace HO_273001 := am (Kd.V_below (pV HO_273001.out) hb); replace HO_273002 := am (Kd.V_below (pV HO_273002.out) hb); replace HO_273003 := am (Kd.V_below (pV HO_273003.out) hb); replace HO290 := am (Kd.V_below (pV HO290.out) hb); replace BK272 := am (pkb BK272.out hb); replace BK273 := am (pkb BK273.out hb); replace HB := am (below_step pB hb); (try clear hb)))
      go_loopg [7] k2 (fun kq v7 w' => ∃ (x7_3 : Int) (x273000_3 : List Int) (x273002_3 : List Int) (x273003_3 : List Int) (u273000 : Value) (u273002 : Value) (u273003 : Value), v7 = .int .i64 x7_3 ∧ Aside0 (dec_shortest.l1 kq x7_3 x273000_3 x273001_2 x273002_3 x273003_3 ((Go.bits .and .u64 a0 1) == 0) = some (r1, r2)) ∧ Aside0 (kq ≤ k2) ∧ Aside0 (Kd.V (Kd.int .u32) 74 w' w.heap.size (fun k_ => k_ ≠ gb272 ∧ k_ ≠ gb273) u273000 x273000_3) ∧ Aside0 (Kd.V (Kd.int .u32) 74 w' w.heap.size (fun k_ => k_ ≠ gb272 ∧ k_ ≠ gb273) (.slice Ao58 x273001_2.length co58) x273001_2) ∧ Aside0 (Kd.V (Kd.int .u32) 74 w' w.heap.size (fun k_ => k_ ≠ gb272 ∧ k_ ≠ gb273) u273002 x273002_3) ∧ Aside0 (Kd.V (Kd.int .u32) 74 w' w.heap.size (fun k_ => k_ ≠ gb272 ∧ k_ ≠ gb273) u273003 x273003_3) ∧ Aside0 (w'.heap[gb272]? = some (.cells #[u273000, (.slice Ao58 x273001_2.length co58), u273002, u273003] 66 (0, 0))) ∧ Aside0 (w'.heap[gb273]? = some (.cells #[.bool ((Go.bits .and .u64 a0 1) == 0)] 4 (0, 0))) ∧ Aside0 (Below w.heap.size w w'))
      case atStart => exact ⟨(x7_2), (x273000_4), (x273002_4), (x273003_4), (.slice Ao63 x273000_4.length co63), (u273002), (.slice Ao64 x273003_4.length co64), (by first | rfl | (simp; done) | (simp [*]; done)), H', ⟨Nat.le_refl _⟩, ⟨by (with_reducible repeat (first | apply Kd.V_alloc | apply Kd.V_drewN | apply Kd.V_drew)); exact HO_273000.out⟩, ⟨by (with_reducible repeat (first | apply Kd.V_alloc | apply Kd.V_drewN | apply Kd.V_drew)); exact HO_273001.out⟩, ⟨by (with_reducible repeat (first | apply Kd.V_alloc | apply Kd.V_drewN | apply Kd.V_drew)); exact HO_273002.out⟩, ⟨by (with_reducible repeat (first | apply Kd.V_alloc | apply Kd.V_drewN | apply Kd.V_drew)); exact HO_273003.out⟩, ⟨by (with_reducible repeat (first | refine blk_drewN ?_ _ | refine blk_drew ?_ | refine blk_alloc ?_ _)); exact BK272.out⟩, ⟨by (with_reducible repeat (first | refine blk_drewN ?_ _ | refine blk_drew ?_ | refine blk_alloc ?_ _)); exact BK273.out⟩, ⟨pB⟩⟩
      case round =>
       clear H'
       try clear c1
       try clear c2
       try clear p2
       try clear c3
       try clear c4
       try clear c5
       try clear p6
       try clear c14
       try clear c16
       try clear c18
       try clear c18b0
       try clear c18b1
       try clear c20
       try clear c32
       try clear c33
       try clear c36
       try clear c37
       try clear c38
       try clear c40
       try clear c42
       try clear c56
       try clear p64
       try clear q15 q21 q24 q43 q46 q47 q52 q55 q57 q60 q61 q9
       try clear p2
       try clear p6
       obtain ⟨x7_3, x273000_3, x273002_3, x273003_3, u273000, u273002, u273003, rfl, HA, HK3, HO_273000, HO_273001, HO_273002, HO_273003, BK272, BK273, HB⟩ := hrel
       cases gk with
       | zero => exact absurd HA.out (by simp [dec_shortest.l1])
       | succ k3 =>
        have H := HA.out
        clear HA
        simp only [dec_shortest.l1] at H
        replace H := Option.bind_eq_some_iff.mp H
        obtain ⟨t295, A660, H⟩ := H
        try dsimp only at H
        have A66 := am A660
        clear A660
        by_cases c67 : t295 = true
        ·subst c67
         rw [if_pos rfl] at H
         have H' := am H
         clear H
         have hnb68 := NB272_273.out
         have hnc68 := NB273_272.out
         have q69 := cf4 BK272.out
         have q70 := cf1 BK273.out
         obtain ⟨Ao71, co71, eo71⟩ := Kd.V_slice HO_273000.out
         subst eo71
         obtain ⟨Ao72, co72, eo72⟩ := Kd.V_slice HO_273003.out
         subst eo72
         go_wp2_with (first | (go_at_call 33; (with_reducible refine (dec_high.calls k3 _ _ x273001_2 Ao71 co71 x273000_3 Ao72 co72 x273003_3 ((Go.bits .and .u64 a0 1) == 0) true _ ?side1 ?side2 ?side3 ?side4 ?side5 ?side6 A66.out gb272 gb273 ?side7 ?side8 ?side9).mono ?_); (case side7 => first | exact cz0 BK272.out | exact (blk_cell (pK BK272.out) 0).trans rfl); (case side8 => first | exact cz3 BK272.out | exact (blk_cell (pK BK272.out) 3).trans rfl); (case side9 => first | exact cz0 BK273.out | exact (blk_cell (pK BK273.out) 0).trans rfl); (case side1 => repeat (first | exact (Kd.V_reads' HO_273001.out).2.2 | (with_reducible refine Kd.C_alloc ?_ _) | (with_reducible refine Kd.C_drewN ?_ _) | (with_reducible refine Kd.C_drew ?_))); (case side2 => exact (Kd.V_reads' HO_273001.out).2.1); (case side3 => repeat (first | exact (Kd.V_reads' HO_273000.out).2.2 | (with_reducible refine Kd.C_alloc ?_ _) | (with_reducible refine Kd.C_drewN ?_ _) | (with_reducible refine Kd.C_drew ?_))); (case side4 => exact (Kd.V_reads' HO_273000.out).2.1); (case side5 => repeat (first | exact (Kd.V_reads' HO_273003.out).2.2 | (with_reducible refine Kd.C_alloc ?_ _) | (with_reducible refine Kd.C_drewN ?_ _) | (with_reducible refine Kd.C_drew ?_))); (case side6 => exact (Kd.V_reads' HO_273003.out).2.1); rintro e w73 ⟨rfl, hb⟩; replace HO_273000 := am (Kd.V_below (pV HO_273000.out) hb); replace HO_273001 := am (Kd.V_below (pV HO_273001.out) hb); replace HO_273002 := am (Kd.V_below (pV HO_273002.out) hb); replace HO_273003 := am (Kd.V_below (pV HO_273003.out) hb); replace BK272 := am (pkb BK272.out hb); replace BK273 := am (pkb BK273.out hb); replace HB := am (below_step pB hb); (try clear hb)))
         go_loopg [8] k3 (fun kq v8 w' => ∃ (x8_4 : List Int) (x273000_4 : List Int) (x273002_4 : List Int) (x273003_4 : List Int) (u273000 : Value) (u273002 : Value) (u273003 : Value), Aside0 (dec_shortest.l2 kq x7_3 x8_4 x273000_4 x273001_2 x273002_4 x273003_4 ((Go.bits .and .u64 a0 1) == 0) = some (r1, r2)) ∧ Aside0 (kq ≤ k3) ∧ Aside0 (Kd.R (Kd.int .u8) 5 w' w.heap.size (fun _ => True) v8 x8_4) ∧ Aside0 (Kd.V (Kd.int .u32) 74 w' w.heap.size (fun k_ => some k_ ≠ (v8 : Value).ownBlock ∧ k_ ≠ gb272 ∧ k_ ≠ gb273) u273000 x273000_4) ∧ Aside0 (Kd.V (Kd.int .u32) 74 w' w.heap.size (fun k_ => some k_ ≠ (v8 : Value).ownBlock ∧ k_ ≠ gb272 ∧ k_ ≠ gb273) (.slice Ao58 x273001_2.length co58) x273001_2) ∧ Aside0 (Kd.V (Kd.int .u32) 74 w' w.heap.size (fun k_ => some k_ ≠ (v8 : Value).ownBlock ∧ k_ ≠ gb272 ∧ k_ ≠ gb273) u273002 x273002_4) ∧ Aside0 (Kd.V (Kd.int .u32) 74 w' w.heap.size (fun k_ => some k_ ≠ (v8 : Value).ownBlock ∧ k_ ≠ gb272 ∧ k_ ≠ gb273) u273003 x273003_4) ∧ Aside0 (w'.heap[gb272]? = some (.cells #[u273000, (.slice Ao58 x273001_2.length co58), u273002, u273003] 66 (0, 0))) ∧ Aside0 (w'.heap[gb273]? = some (.cells #[.bool ((Go.bits .and .u64 a0 1) == 0)] 4 (0, 0))) ∧ Aside0 (Below w.heap.size w w'))
         case atStart => exact ⟨(([] : List Int)), (x273000_3), (x273002_3), (x273003_3), (.slice Ao71 x273000_3.length co71), (u273002), (.slice Ao72 x273003_3.length co72), H', ⟨Nat.le_refl _⟩, ⟨pZ⟩, ⟨by (with_reducible repeat (first | apply Kd.V_alloc | apply Kd.V_drewN | apply Kd.V_drew)); exact Kd.V_mono HO_273000.out (fun _ hk => ⟨(by simp [Value.ownBlock]), ⟨hk.1, hk.2⟩⟩)⟩, ⟨by (with_reducible repeat (first | apply Kd.V_alloc | apply Kd.V_drewN | apply Kd.V_drew)); exact Kd.V_mono HO_273001.out (fun _ hk => ⟨(by simp [Value.ownBlock]), ⟨hk.1, hk.2⟩⟩)⟩, ⟨by (with_reducible repeat (first | apply Kd.V_alloc | apply Kd.V_drewN | apply Kd.V_drew)); exact Kd.V_mono HO_273002.out (fun _ hk => ⟨(by simp [Value.ownBlock]), ⟨hk.1, hk.2⟩⟩)⟩, ⟨by (with_reducible repeat (first | apply Kd.V_alloc | apply Kd.V_drewN | apply Kd.V_drew)); exact Kd.V_mono HO_273003.out (fun _ hk => ⟨(by simp [Value.ownBlock]), ⟨hk.1, hk.2⟩⟩)⟩, ⟨by (with_reducible repeat (first | refine blk_drewN ?_ _ | refine blk_drew ?_ | refine blk_alloc ?_ _)); exact BK272.out⟩, ⟨by (with_reducible repeat (first | refine blk_drewN ?_ _ | refine blk_drew ?_ | refine blk_alloc ?_ _)); exact BK273.out⟩, ⟨pB⟩⟩
         case round =>
          clear H'
          try clear c1
          try clear c2
          try clear p2
          try clear c3
          try clear c4
          try clear c5
          try clear c6
          try clear p6
          try clear c14
          try clear c16
          try clear c18
          try clear c18b0
          try clear c18b1
          try clear c20
          try clear c32
          try clear c33
          try clear c36
          try clear c37
          try clear c38
          try clear c40
          try clear c42
          try clear c56
          try clear p64
          try clear c67
          try clear c68
          try clear q15 q21 q24 q43 q46 q47 q52 q55 q57 q60 q61 q69 q70 q9
          try clear p2
          try clear p6
          try clear p64
          obtain ⟨x8_4, x273000_4, x273002_4, x273003_4, u273000, u273002, u273003, HA, HK4, HO_8, HO_273000, HO_273001, HO_273002, HO_273003, BK272, BK273, HB⟩ := hrel
          cases gk with
          | zero => exact absurd HA.out (by simp [dec_shortest.l2])
          | succ k4 =>
           have H := HA.out
           clear HA
           simp only [dec_shortest.l2] at H
           have H' := am H
           clear H
           go_wp2
           go_loopg [9] k4 (fun kq v9 w' => ∃ (x9_5 : Int) (x273000_5 : List Int) (u273000 : Value), v9 = .int .u8 x9_5 ∧ Aside0 (dec_shortest.l3 kq x7_3 x8_4 x9_5 x273000_5 x273001_2 x273002_4 x273003_4 ((Go.bits .and .u64 a0 1) == 0) = some (r1, r2)) ∧ Aside0 (kq ≤ k4) ∧ Aside0 (Kd.R (Kd.int .u8) 5 w' w.heap.size (fun _ => True) u8 x8_4) ∧ Aside0 (Kd.V (Kd.int .u32) 74 w' w.heap.size (fun k_ => some k_ ≠ (u8 : Value).ownBlock ∧ k_ ≠ gb272 ∧ k_ ≠ gb273) u273000 x273000_5) ∧ Aside0 (Kd.V (Kd.int .u32) 74 w' w.heap.size (fun k_ => some k_ ≠ (u8 : Value).ownBlock ∧ k_ ≠ gb272 ∧ k_ ≠ gb273) (.slice Ao58 x273001_2.length co58) x273001_2) ∧ Aside0 (Kd.V (Kd.int .u32) 74 w' w.heap.size (fun k_ => some k_ ≠ (u8 : Value).ownBlock ∧ k_ ≠ gb272 ∧ k_ ≠ gb273) u273002 x273002_4) ∧ Aside0 (Kd.V (Kd.int .u32) 74 w' w.heap.size (fun k_ => some k_ ≠ (u8 : Value).ownBlock ∧ k_ ≠ gb272 ∧ k_ ≠ gb273) u273003 x273003_4) ∧ Aside0 (w'.heap[gb272]? = some (.cells #[u273000, (.slice Ao58 x273001_2.length co58), u273002, u273003] 66 (0, 0))) ∧ Aside0 (w'.heap[gb273]? = some (.cells #[.bool ((Go.bits .and .u64 a0 1) == 0)] 4 (0, 0))) ∧ Aside0 (Below w.heap.size w w'))
           case atStart => exact ⟨(0), (x273000_4), (u273000), (by first | rfl | (simp; done) | (simp [*]; done)), H', ⟨Nat.le_refl _⟩, ⟨by (with_reducible repeat (first | apply Kd.R_alloc | apply Kd.R_drewN | apply Kd.R_drew)); exact HO_8.out⟩, ⟨by (with_reducible repeat (first | apply Kd.V_alloc | apply Kd.V_drewN | apply Kd.V_drew)); exact HO_273000.out⟩, ⟨by (with_reducible repeat (first | apply Kd.V_alloc | apply Kd.V_drewN | apply Kd.V_drew)); exact HO_273001.out⟩, ⟨by (with_reducible repeat (first | apply Kd.V_alloc | apply Kd.V_drewN | apply Kd.V_drew)); exact HO_273002.out⟩, ⟨by (with_reducible repeat (first | apply Kd.V_alloc | apply Kd.V_drewN | apply Kd.V_drew)); exact HO_273003.out⟩, ⟨by (with_reducible repeat (first | refine blk_drewN ?_ _ | refine blk_drew ?_ | refine blk_alloc ?_ _)); exact BK272.out⟩, ⟨by (with_reducible repeat (first | refine blk_drewN ?_ _ | refine blk_drew ?_ | refine blk_alloc ?_ _)); exact BK273.out⟩, ⟨pB⟩⟩
           case round =>
            clear H'
            try clear c1
            try clear c2
            try clear p2
            try clear c3
            try clear c4
            try clear c5
            try clear c6
            try clear p6
            try clear c14
            try clear c16
            try clear c18
            try clear c18b0
            try clear c18b1
            try clear c20
            try clear c32
            try clear c33
            try clear c36
            try clear c37
            try clear c38
            try clear c40
            try clear c42
            try clear c56
            try clear p64
            try clear c67
            try clear c68
            try clear q15 q21 q24 q43 q46 q47 q52 q55 q57 q60 q61 q69 q70 q9
            try clear p2
            try clear p6
            try clear p64
            obtain ⟨x9_5, x273000_5, u273000, rfl, HA, HK5, HO_8, HO_273000, HO_273001, HO_273002, HO_273003, BK272, BK273, HB⟩ := hrel
            cases gk with
            | zero => exact absurd HA.out (by simp [dec_shortest.l3])
            | succ k5 =>
             have H := HA.out
             clear HA
             simp only [dec_shortest.l3] at H
             replace H := Option.bind_eq_some_iff.mp H
             obtain ⟨t305, A740, H⟩ := H
             try dsimp only at H
             have A74 := am A740
             clear A740
             by_cases c75 : t305 ≥ 0
             ·rw [if_pos c75] at H
              have c75b0 : decide (0 ≤ t305) = true := decide_eq_true c75
              clear c75
              replace H := Option.bind_eq_some_iff.mp H
              obtain ⟨t306, A760, H⟩ := H
              try dsimp only at H
              have A76 := am A760
              clear A760
              have H' := am H
              clear H
              have hnb77 := NB272_273.out
              have hnc77 := NB273_272.out
              have q78 := cf4 BK272.out
              obtain ⟨Ao79, co79, eo79⟩ := Kd.V_slice HO_273000.out
              subst eo79
              go_wp2_with (first | ((with_reducible refine gate_callee (f := 35) rfl ?_); refine goesL_ (some 88) rfl rfl Tryd.func35 (by kernel_rfl) rfl #[.slice Ao79 x273000_5.length co79, .slice Ao58 x273001_2.length co58] rfl pM ?_; (with_reducible refine (dec_big_cmp.calls k5 _ _ x273000_5 _ _ x273001_2 t305 _ ?side1 ?side2 ?side3 ?side4 A74.out).mono ?_); (case side1 => repeat (first | exact (Kd.V_reads' HO_273000.out).2.2 | (with_reducible refine Kd.C_alloc ?_ _) | (with_reducible refine Kd.C_drewN ?_ _) | (with_reducible refine Kd.C_drew ?_))); (case side2 => exact (Kd.V_reads' HO_273000.out).2.1); (case side3 => repeat (first | exact (Kd.V_reads' HO_273001.out).2.2 | (with_reducible refine Kd.C_alloc ?_ _) | (with_reducible refine Kd.C_drewN ?_ _) | (with_reducible refine Kd.C_drew ?_))); (case side4 => exact (Kd.V_reads' HO_273001.out).2.1); rintro e w' ⟨rfl, ⟨nd, rfl⟩⟩; refine ⟨_, rfl, ?_⟩; (try (rw [drewN_self wr]; generalize hq_ : World.drewN wr _ = wr; have n0_ : Aside0 (Kd.V (Kd.int .u32) 74 wr w.heap.size (fun k_ => some k_ ≠ (u8 : Value).ownBlock ∧ k_ ≠ gb272 ∧ k_ ≠ gb273) (.slice Ao79 x273000_5.length co79) x273000_5) := ⟨by rw [← hq_]; exact (pV HO_273000.out)⟩; have n1_ : Aside0 (Kd.V (Kd.int .u32) 74 wr w.heap.size (fun k_ => some k_ ≠ (u8 : Value).ownBlock ∧ k_ ≠ gb272 ∧ k_ ≠ gb273) (.slice Ao58 x273001_2.length co58) x273001_2) := ⟨by rw [← hq_]; exact (pV HO_273001.out)⟩; have n2_ : Aside0 (Kd.V (Kd.int .u32) 74 wr w.heap.size (fun k_ => some k_ ≠ (u8 : Value).ownBlock ∧ k_ ≠ gb272 ∧ k_ ≠ gb273) u273002 x273002_4) := ⟨by rw [← hq_]; exact (pV HO_273002.out)⟩; have n3_ : Aside0 (Kd.V (Kd.int .u32) 74 wr w.heap.size (fun k_ => some k_ ≠ (u8 : Value).ownBlock ∧ k_ ≠ gb272 ∧ k_ ≠ gb273) u273003 x273003_4) := ⟨by rw [← hq_]; exact (pV HO_273003.out)⟩; have n4_ : Aside0 (Kd.R (Kd.int .u8) 5 wr w.heap.size (fun _ => True) u8 x8_4) := ⟨by rw [← hq_]; exact (pR HO_8.out)⟩; have n5_ : Aside0 (wr.heap[gb272]? = some (.cells #[.slice Ao79 x273000_5.length co79, .slice Ao58 x273001_2.length co58, u273002, u273003] 66 (0, 0))) := ⟨by rw [← hq_]; exact (pK BK272.out)⟩; have n6_ : Aside0 (wr.heap[gb273]? = some (.cells #[.bool ((Go.bits .and .u64 a0 1) == 0)] 4 (0, 0))) := ⟨by rw [← hq_]; exact (pK BK273.out)⟩; have n7_ : Aside0 (Below w.heap.size w wr) := ⟨by rw [← hq_]; exact pB⟩; clear HO_273000 HO_273001 HO_273002 HO_273003 HO_8 BK272 BK273 HB hq_; have HO_273000 := n0_; have HO_273001 := n1_; have HO_273002 := n2_; have HO_273003 := n3_; have HO_8 := n4_; have BK272 := n5_; have BK273 := n6_; have HB := n7_; clear n0_ n1_ n2_ n3_ n4_ n5_ n6_ n7_; have qw_gb272 := cf1 BK272.out; have hczw_gb272_1 : wr.cell? ⟨gb272, 1, none⟩ = some (.slice Ao58 x273001_2.length co58) := cz1 BK272.out; have hfzw_gb272_1 := blk_frozen BK272.out 1; have hczw_gb272_2 : wr.cell? ⟨gb272, 2, none⟩ = some (u273002) := cz2 BK272.out; have hfzw_gb272_2 := blk_frozen BK272.out 2; have hczw_gb272_3 : wr.cell? ⟨gb272, 3, none⟩ = some (u273003) := cz3 BK272.out; have hfzw_gb272_3 := blk_frozen BK272.out 3; have qw_gb273 := cf1 BK273.out))) | ((with_reducible refine gate_callee (f := 39) rfl ?_); refine goesL_ (some 94) rfl rfl Tryd.func39 (by kernel_rfl) rfl #[.slice Ao79 x273000_5.length co79, .slice Ao58 x273001_2.length co58] rfl pM ?_; (with_reducible refine (dec_big_minus.calls k5 _ _ x273000_5 _ _ x273001_2 t306 _ ?side1 ?side2 ?side3 ?side4 A76.out).mono ?_); (case side1 => repeat (first | exact (Kd.V_reads' HO_273000.out).2.2 | (with_reducible refine Kd.C_alloc ?_ _) | (with_reducible refine Kd.C_drewN ?_ _) | (with_reducible refine Kd.C_drew ?_))); (case side2 => exact (Kd.V_reads' HO_273000.out).2.1); (case side3 => repeat (first | exact (Kd.V_reads' HO_273001.out).2.2 | (with_reducible refine Kd.C_alloc ?_ _) | (with_reducible refine Kd.C_drewN ?_ _) | (with_reducible refine Kd.C_drew ?_))); (case side4 => exact (Kd.V_reads' HO_273001.out).2.1); rintro e w80 ⟨v307, rfl, ho0, hb⟩; refine ⟨_, rfl, ?_⟩; replace HO_273000 := am (Kd.V_below (pV HO_273000.out) hb); replace HO_273001 := am (Kd.V_below (pV HO_273001.out) hb); replace HO_273002 := am (Kd.V_below (pV HO_273002.out) hb); replace HO_273003 := am (Kd.V_below (pV HO_273003.out) hb); have HO308 := am (Kd.V_lower (Kd.V_mono (ok' := fun k_ => some k_ ≠ (u8 : Value).ownBlock ∧ k_ ≠ gb272 ∧ k_ ≠ gb273) ho0 (fun k_ hk_ => ⟨(Kd.fresh' (Kd.R_lt (pR HO_8.out)) k_ hk_), (Kd.freshB (g := gb272) (o := .cells #[.slice Ao79 x273000_5.length co79, .slice Ao58 x273001_2.length co58, u273002, u273003] 66 (0, 0)) (pK BK272.out) k_ hk_), (Kd.freshB (g := gb273) (o := .cells #[.bool ((Go.bits .and .u64 a0 1) == 0)] 4 (0, 0)) (pK BK273.out) k_ hk_)⟩)) (below_size pB)); replace HO_8 := am (Kd.R_below (pR HO_8.out) hb); replace BK272 := am (pkb BK272.out hb); replace BK273 := am (pkb BK273.out hb); replace HB := am (below_step pB hb); (try clear hb); (try clear ho0); obtain ⟨Ao81, co81, eo81⟩ := Kd.V_slice HO308.out; subst eo81; have q82 := cf4 BK272.out))
              go_roundg k5
              case measure => have := HJ4.out; have := HK2.out; have := HK3.out; have := HK4.out; have := HK5.out; omega
              case rel => exact ⟨((x9_5 + 1) % 256), (t306), (.slice Ao81 t306.length co81), (by first | rfl | (simp; done) | (simp [*]; done)), H', ⟨by have := HJ4.out; have := HK2.out; have := HK3.out; have := HK4.out; have := HK5.out; omega⟩, ⟨by (with_reducible repeat (first | apply Kd.R_alloc | apply Kd.R_drewN | apply Kd.R_drew)); exact Kd.R_mono (Kd.R_far (p := ⟨gb272, 0, none⟩) (Kd.R_types HO_8.out BK272.out (by decide)) (fun _ hk => hk.2) (.slice Ao81 t306.length co81)) (fun _ hk => trivial)⟩, ⟨by (with_reducible repeat (first | apply Kd.V_alloc | apply Kd.V_drewN | apply Kd.V_drew)); exact Kd.V_mono (Kd.V_far (p := ⟨gb272, 0, none⟩) (Kd.V_mono HO308.out (fun k_ hk => (⟨hk, hk.2.1⟩ : _ ∧ k_ ≠ gb272))) (fun _ hk => hk.2) (.slice Ao81 t306.length co81)) (fun _ hk => ⟨hk.1.1, ⟨hk.1.2.1, hk.1.2.2⟩⟩)⟩, ⟨by (with_reducible repeat (first | apply Kd.V_alloc | apply Kd.V_drewN | apply Kd.V_drew)); exact Kd.V_mono (Kd.V_far (p := ⟨gb272, 0, none⟩) (Kd.V_mono HO_273001.out (fun k_ hk => (⟨hk, hk.2.1⟩ : _ ∧ k_ ≠ gb272))) (fun _ hk => hk.2) (.slice Ao81 t306.length co81)) (fun _ hk => ⟨hk.1.1, ⟨hk.1.2.1, hk.1.2.2⟩⟩)⟩, ⟨by (with_reducible repeat (first | apply Kd.V_alloc | apply Kd.V_drewN | apply Kd.V_drew)); exact Kd.V_mono (Kd.V_far (p := ⟨gb272, 0, none⟩) (Kd.V_mono HO_273002.out (fun k_ hk => (⟨hk, hk.2.1⟩ : _ ∧ k_ ≠ gb272))) (fun _ hk => hk.2) (.slice Ao81 t306.length co81)) (fun _ hk => ⟨hk.1.1, ⟨hk.1.2.1, hk.1.2.2⟩⟩)⟩, ⟨by (with_reducible repeat (first | apply Kd.V_alloc | apply Kd.V_drewN | apply Kd.V_drew)); exact Kd.V_mono (Kd.V_far (p := ⟨gb272, 0, none⟩) (Kd.V_mono HO_273003.out (fun k_ hk => (⟨hk, hk.2.1⟩ : _ ∧ k_ ≠ gb272))) (fun _ hk => hk.2) (.slice Ao81 t306.length co81)) (fun _ hk => ⟨hk.1.1, ⟨hk.1.2.1, hk.1.2.2⟩⟩)⟩, ⟨by (with_reducible repeat (first | refine blk_drewN ?_ _ | refine blk_drew ?_ | refine blk_alloc ?_ _)); refine blk_put (cs := #[.slice Ao79 x273000_5.length co79, .slice Ao58 x273001_2.length co58, u273002, u273003]) ?_ 0 _ rfl; (with_reducible repeat (first | refine blk_drewN ?_ _ | refine blk_drew ?_ | refine blk_alloc ?_ _)); exact BK272.out⟩, ⟨by (with_reducible repeat (first | refine blk_drewN ?_ _ | refine blk_drew ?_ | refine blk_alloc ?_ _)); refine blk_far ?_ NB273_272.out _; (with_reducible repeat (first | refine blk_drewN ?_ _ | refine blk_drew ?_ | refine blk_alloc ?_ _)); exact BK273.out⟩, ⟨pB⟩⟩
             ·rw [if_neg c75] at H
              have c75b0 : decide (0 ≤ t305) = false := decide_eq_false c75
              clear c75
              replace H := Option.bind_eq_some_iff.mp H
              obtain ⟨t309, A830, H⟩ := H
              try dsimp only at H
              have A83 := am A830
              clear A830
              have HC84 := am H
              clear H
              have hnb85 := NB272_273.out
              have hnc85 := NB273_272.out
              have q86 := cf4 BK272.out
              obtain ⟨Ao87, co87, eo87⟩ := Kd.V_slice HO_273000.out
              subst eo87
              go_upto_region 17 with (first | ((with_reducible refine gate_callee (f := 35) rfl ?_); refine goesL_ (some 88) rfl rfl Tryd.func35 (by kernel_rfl) rfl #[.slice Ao87 x273000_5.length co87, .slice Ao58 x273001_2.length co58] rfl pM ?_; (with_reducible refine (dec_big_cmp.calls k5 _ _ x273000_5 _ _ x273001_2 t305 _ ?side1 ?side2 ?side3 ?side4 A74.out).mono ?_); (case side1 => repeat (first | exact (Kd.V_reads' HO_273000.out).2.2 | (with_reducible refine Kd.C_alloc ?_ _) | (with_reducible refine Kd.C_drewN ?_ _) | (with_reducible refine Kd.C_drew ?_))); (case side2 => exact (Kd.V_reads' HO_273000.out).2.1); (case side3 => repeat (first | exact (Kd.V_reads' HO_273001.out).2.2 | (with_reducible refine Kd.C_alloc ?_ _) | (with_reducible refine Kd.C_drewN ?_ _) | (with_reducible refine Kd.C_drew ?_))); (case side4 => exact (Kd.V_reads' HO_273001.out).2.1); rintro e w' ⟨rfl, ⟨nd, rfl⟩⟩; refine ⟨_, rfl, ?_⟩; obtain ⟨Ao88, co88, eo88⟩ := Kd.V_slice HO_273002.out; subst eo88) | ((with_reducible refine gate_callee (f := 35) rfl ?_); refine goesL_ (some 102) rfl rfl Tryd.func35 (by kernel_rfl) rfl #[.slice Ao87 x273000_5.length co87, .slice Ao88 x273002_4.length co88] rfl pM ?_; (with_reducible refine (dec_big_cmp.calls k5 _ _ x273000_5 _ _ x273002_4 t309 _ ?side1 ?side2 ?side3 ?side4 A83.out).mono ?_); (case side1 => repeat (first | exact (Kd.V_reads' HO_273000.out).2.2 | (with_reducible refine Kd.C_alloc ?_ _) | (with_reducible refine Kd.C_drewN ?_ _) | (with_reducible refine Kd.C_drew ?_))); (case side2 => exact (Kd.V_reads' HO_273000.out).2.1); (case side3 => repeat (first | exact (Kd.V_reads' HO_273002.out).2.2 | (with_reducible refine Kd.C_alloc ?_ _) | (with_reducible refine Kd.C_drewN ?_ _) | (with_reducible refine Kd.C_drew ?_))); (case side4 => exact (Kd.V_reads' HO_273002.out).2.1); rintro e w' ⟨rfl, ⟨nd, rfl⟩⟩; refine ⟨_, rfl, ?_⟩))
              (try simp only [Act.put, List.setIfInBounds_toArray, List.set_cons_zero, List.set_cons_succ])
              go_cut [11, 12] (fun v11 v12 wc => ∃ (kq : Nat) (x11_83 : Bool) (x12_83 : Bool), v11 = .bool x11_83 ∧ v12 = .bool x12_83 ∧ Aside0 (dec_shortest.j5 kq x7_3 x8_4 x9_5 x11_83 x12_83 x273000_5 x273001_2 x273002_4 x273003_4 ((Go.bits .and .u64 a0 1) == 0) = some (r1, r2)) ∧ Aside0 (kq ≤ k5) ∧ Aside0 (Kd.R (Kd.int .u8) 5 wc w.heap.size (fun _ => True) u8 x8_4) ∧ Aside0 (Kd.V (Kd.int .u32) 74 wc w.heap.size (fun k_ => some k_ ≠ (u8 : Value).ownBlock ∧ k_ ≠ gb272 ∧ k_ ≠ gb273) (.slice Ao87 x273000_5.length co87) x273000_5) ∧ Aside0 (Kd.V (Kd.int .u32) 74 wc w.heap.size (fun k_ => some k_ ≠ (u8 : Value).ownBlock ∧ k_ ≠ gb272 ∧ k_ ≠ gb273) (.slice Ao58 x273001_2.length co58) x273001_2) ∧ Aside0 (Kd.V (Kd.int .u32) 74 wc w.heap.size (fun k_ => some k_ ≠ (u8 : Value).ownBlock ∧ k_ ≠ gb272 ∧ k_ ≠ gb273) (.slice Ao88 x273002_4.length co88) x273002_4) ∧ Aside0 (Kd.V (Kd.int .u32) 74 wc w.heap.size (fun k_ => some k_ ≠ (u8 : Value).ownBlock ∧ k_ ≠ gb272 ∧ k_ ≠ gb273) u273003 x273003_4) ∧ Aside0 (wc.heap[gb272]? = some (.cells #[(.slice Ao87 x273000_5.length co87), (.slice Ao58 x273001_2.length co58), (.slice Ao88 x273002_4.length co88), u273003] 66 (0, 0))) ∧ Aside0 (wc.heap[gb273]? = some (.cells #[.bool ((Go.bits .and .u64 a0 1) == 0)] 4 (0, 0))) ∧ Aside0 (Below w.heap.size w wc))
              case first =>
               have H := HC84.out
               clear HC84
               by_cases c89 : t309 < 0
               ·rw [if_pos c89] at H
                have c89b0 : decide (t309 < 0) = true := decide_eq_true c89
                clear c89
                (first | rw [c89b0] | (simp only [i64_w, i32_w]; rw [c89b0]) | rw [c89b1] | (simp only [i64_w, i32_w]; rw [c89b1]) | skip)
                replace H := Option.bind_eq_some_iff.mp H
                obtain ⟨t310, A900, H⟩ := H
                try dsimp only at H
                have A90 := am A900
                clear A900
                have H' := am H
                clear H
                have hnb91 := NB272_273.out
                have hnc91 := NB273_272.out
                have q92 := cf4 BK272.out
                have q93 := cf1 BK273.out
                obtain ⟨Ao94, co94, eo94⟩ := Kd.V_slice HO_273003.out
                subst eo94
                go_wp2_with (first | (go_at_call 33; (with_reducible refine (dec_high.calls k5 _ _ x273001_2 Ao87 co87 x273000_5 Ao94 co94 x273003_4 ((Go.bits .and .u64 a0 1) == 0) t310 _ ?side1 ?side2 ?side3 ?side4 ?side5 ?side6 A90.out gb272 gb273 ?side7 ?side8 ?side9).mono ?_); (case side7 => first | exact cz0 BK272.out | exact (blk_cell (pK BK272.out) 0).trans rfl); (case side8 => first | exact cz3 BK272.out | exact (blk_cell (pK BK272.out) 3).trans rfl); (case side9 => first | exact cz0 BK273.out | exact (blk_cell (pK BK273.out) 0).trans rfl); (case side1 => repeat (first | exact (Kd.V_reads' HO_273001.out).2.2 | (with_reducible refine Kd.C_alloc ?_ _) | (with_reducible refine Kd.C_drewN ?_ _) | (with_reducible refine Kd.C_drew ?_))); (case side2 => exact (Kd.V_reads' HO_273001.out).2.1); (case side3 => repeat (first | exact (Kd.V_reads' HO_273000.out).2.2 | (with_reducible refine Kd.C_alloc ?_ _) | (with_reducible refine Kd.C_drewN ?_ _) | (with_reducible refine Kd.C_drew ?_))); (case side4 => exact (Kd.V_reads' HO_273000.out).2.1); (case side5 => repeat (first | exact (Kd.V_reads' HO_273003.out).2.2 | (with_reducible refine Kd.C_alloc ?_ _) | (with_reducible refine Kd.C_drewN ?_ _) | (with_reducible refine Kd.C_drew ?_))); (case side6 => exact (Kd.V_reads' HO_273003.out).2.1); rintro e w95 ⟨rfl, hb⟩; replace HO_8 := am (Kd.R_below (pR HO_8.out) hb); replace HO_273000 := am (Kd.V_below (pV HO_273000.out) hb); replace HO_273001 := am (Kd.V_below (pV HO_273001.out) hb); replace HO_273002 := am (Kd.V_below (pV HO_273002.out) hb); replace HO_273003 := am (Kd.V_below (pV HO_273003.out) hb); replace BK272 := am (pkb BK272.out hb); replace BK273 := am (pkb BK273.out hb); replace HB := am (below_step pB hb); (try clear hb)))
                go_meet
                case rel => exact ⟨_, (true), (t310), (by first | rfl | (simp; done) | (simp [*]; done)), (by first | rfl | (simp; done) | (simp [*]; done)), H', ⟨by have := HJ4.out; have := HK2.out; have := HK3.out; have := HK4.out; have := HK5.out; first | omega | exact Nat.le_refl _⟩, ⟨by (with_reducible repeat (first | apply Kd.R_alloc | apply Kd.R_drewN | apply Kd.R_drew)); exact HO_8.out⟩, ⟨by (with_reducible repeat (first | apply Kd.V_alloc | apply Kd.V_drewN | apply Kd.V_drew)); exact HO_273000.out⟩, ⟨by (with_reducible repeat (first | apply Kd.V_alloc | apply Kd.V_drewN | apply Kd.V_drew)); exact HO_273001.out⟩, ⟨by (with_reducible repeat (first | apply Kd.V_alloc | apply Kd.V_drewN | apply Kd.V_drew)); exact HO_273002.out⟩, ⟨by (with_reducible repeat (first | apply Kd.V_alloc | apply Kd.V_drewN | apply Kd.V_drew)); exact HO_273003.out⟩, ⟨by (with_reducible repeat (first | refine blk_drewN ?_ _ | refine blk_drew ?_ | refine blk_alloc ?_ _)); exact BK272.out⟩, ⟨by (with_reducible repeat (first | refine blk_drewN ?_ _ | refine blk_drew ?_ | refine blk_alloc ?_ _)); exact BK273.out⟩, ⟨pB⟩⟩
               ·rw [if_neg c89] at H
                have c89b0 : decide (t309 < 0) = false := decide_eq_false c89
                clear c89
                (first | rw [c89b0] | (simp only [i64_w, i32_w]; rw [c89b0]) | rw [c89b1] | (simp only [i64_w, i32_w]; rw [c89b1]) | skip)
                by_cases c96 : ((Go.bits .and .u64 a0 1) == 0) = true
                ·rw [if_pos c96] at H
                 have c96b0 : ((Go.bits .and .u64 a0 1) == 0) = true := c96
                 (try (have c96b1 : decide ((Go.bits .and .u64 a0 1) = 0) = true := by simpa using c96))
                 (try (have c96b2 : ((Go.bits .and .u64 a0 1) == 0) = true := by simpa using c96))
                 clear c96
                 replace H := Option.bind_eq_some_iff.mp H
                 obtain ⟨t311, A970, H⟩ := H
                 try dsimp only at H
                 have A97 := am A970
                 clear A970
                 have H' := am H
                 clear H
                 have hnb98 := NB273_272.out
                 have hnc98 := NB272_273.out
                 have q99 := cf1 BK273.out
                 have q100 := cf4 BK272.out
                 obtain ⟨Ao101, co101, eo101⟩ := Kd.V_slice HO_273003.out
                 subst eo101
                 go_wp2_with (first | (go_at_call 33; (with_reducible refine (dec_high.calls k5 _ _ x273001_2 Ao87 co87 x273000_5 Ao101 co101 x273003_4 ((Go.bits .and .u64 a0 1) == 0) t311 _ ?side1 ?side2 ?side3 ?side4 ?side5 ?side6 A97.out gb272 gb273 ?side7 ?side8 ?side9).mono ?_); (case side7 => first | exact cz0 BK272.out | exact (blk_cell (pK BK272.out) 0).trans rfl); (case side8 => first | exact cz3 BK272.out | exact (blk_cell (pK BK272.out) 3).trans rfl); (case side9 => first | exact cz0 BK273.out | exact (blk_cell (pK BK273.out) 0).trans rfl); (case side1 => repeat (first | exact (Kd.V_reads' HO_273001.out).2.2 | (with_reducible refine Kd.C_alloc ?_ _) | (with_reducible refine Kd.C_drewN ?_ _) | (with_reducible refine Kd.C_drew ?_))); (case side2 => exact (Kd.V_reads' HO_273001.out).2.1); (case side3 => repeat (first | exact (Kd.V_reads' HO_273000.out).2.2 | (with_reducible refine Kd.C_alloc ?_ _) | (with_reducible refine Kd.C_drewN ?_ _) | (with_reducible refine Kd.C_drew ?_))); (case side4 => exact (Kd.V_reads' HO_273000.out).2.1); (case side5 => repeat (first | exact (Kd.V_reads' HO_273003.out).2.2 | (with_reducible refine Kd.C_alloc ?_ _) | (with_reducible refine Kd.C_drewN ?_ _) | (with_reducible refine Kd.C_drew ?_))); (case side6 => exact (Kd.V_reads' HO_273003.out).2.1); rintro e w102 ⟨rfl, hb⟩; replace HO_8 := am (Kd.R_below (pR HO_8.out) hb); replace HO_273000 := am (Kd.V_below (pV HO_273000.out) hb); replace HO_273001 := am (Kd.V_below (pV HO_273001.out) hb); replace HO_273002 := am (Kd.V_below (pV HO_273002.out) hb); replace HO_273003 := am (Kd.V_below (pV HO_273003.out) hb); replace BK272 := am (pkb BK272.out hb); replace BK273 := am (pkb BK273.out hb); replace HB := am (below_step pB hb); (try clear hb)))
                 go_meet
                 case rel => exact ⟨_, ((t309 == 0)), (t311), (by first | rfl | (simp; done) | (simp [*]; done)), (by first | rfl | (simp; done) | (simp [*]; done)), H', ⟨by have := HJ4.out; have := HK2.out; have := HK3.out; have := HK4.out; have := HK5.out; first | omega | exact Nat.le_refl _⟩, ⟨by (with_reducible repeat (first | apply Kd.R_alloc | apply Kd.R_drewN | apply Kd.R_drew)); exact HO_8.out⟩, ⟨by (with_reducible repeat (first | apply Kd.V_alloc | apply Kd.V_drewN | apply Kd.V_drew)); exact HO_273000.out⟩, ⟨by (with_reducible repeat (first | apply Kd.V_alloc | apply Kd.V_drewN | apply Kd.V_drew)); exact HO_273001.out⟩, ⟨by (with_reducible repeat (first | apply Kd.V_alloc | apply Kd.V_drewN | apply Kd.V_drew)); exact HO_273002.out⟩, ⟨by (with_reducible repeat (first | apply Kd.V_alloc | apply Kd.V_drewN | apply Kd.V_drew)); exact HO_273003.out⟩, ⟨by (with_reducible repeat (first | refine blk_drewN ?_ _ | refine blk_drew ?_ | refine blk_alloc ?_ _)); exact BK272.out⟩, ⟨by (with_reducible repeat (first | refine blk_drewN ?_ _ | refine blk_drew ?_ | refine blk_alloc ?_ _)); exact BK273.out⟩, ⟨pB⟩⟩
                ·rw [if_neg c96] at H
                 have c96b0 : ((Go.bits .and .u64 a0 1) == 0) = false := by simpa using c96
                 (try (have c96b1 : decide ((Go.bits .and .u64 a0 1) = 0) = false := by simpa using c96))
                 (try (have c96b2 : ((Go.bits .and .u64 a0 1) == 0) = false := by simpa using c96))
                 (try (have c96b3 : ¬ ((Go.bits .and .u64 a0 1) = 0) := by simpa using c96))
                 clear c96
                 replace H := Option.bind_eq_some_iff.mp H
                 obtain ⟨t312, A1030, H⟩ := H
                 try dsimp only at H
                 have A103 := am A1030
                 clear A1030
                 have H' := am H
                 clear H
                 have hnb104 := NB273_272.out
                 have hnc104 := NB272_273.out
                 have q105 := cf1 BK273.out
                 have q106 := cf4 BK272.out
                 obtain ⟨Ao107, co107, eo107⟩ := Kd.V_slice HO_273003.out
                 subst eo107
                 go_wp2_with (first | (go_at_call 33; (with_reducible refine (dec_high.calls k5 _ _ x273001_2 Ao87 co87 x273000_5 Ao107 co107 x273003_4 ((Go.bits .and .u64 a0 1) == 0) t312 _ ?side1 ?side2 ?side3 ?side4 ?side5 ?side6 A103.out gb272 gb273 ?side7 ?side8 ?side9).mono ?_); (case side7 => first | exact cz0 BK272.out | exact (blk_cell (pK BK272.out) 0).trans rfl); (case side8 => first | exact cz3 BK272.out | exact (blk_cell (pK BK272.out) 3).trans rfl); (case side9 => first | exact cz0 BK273.out | exact (blk_cell (pK BK273.out) 0).trans rfl); (case side1 => repeat (first | exact (Kd.V_reads' HO_273001.out).2.2 | (with_reducible refine Kd.C_alloc ?_ _) | (with_reducible refine Kd.C_drewN ?_ _) | (with_reducible refine Kd.C_drew ?_))); (case side2 => exact (Kd.V_reads' HO_273001.out).2.1); (case side3 => repeat (first | exact (Kd.V_reads' HO_273000.out).2.2 | (with_reducible refine Kd.C_alloc ?_ _) | (with_reducible refine Kd.C_drewN ?_ _) | (with_reducible refine Kd.C_drew ?_))); (case side4 => exact (Kd.V_reads' HO_273000.out).2.1); (case side5 => repeat (first | exact (Kd.V_reads' HO_273003.out).2.2 | (with_reducible refine Kd.C_alloc ?_ _) | (with_reducible refine Kd.C_drewN ?_ _) | (with_reducible refine Kd.C_drew ?_))); (case side6 => exact (Kd.V_reads' HO_273003.out).2.1); rintro e w108 ⟨rfl, hb⟩; replace HO_8 := am (Kd.R_below (pR HO_8.out) hb); replace HO_273000 := am (Kd.V_below (pV HO_273000.out) hb); replace HO_273001 := am (Kd.V_below (pV HO_273001.out) hb); replace HO_273002 := am (Kd.V_below (pV HO_273002.out) hb); replace HO_273003 := am (Kd.V_below (pV HO_273003.out) hb); replace BK272 := am (pkb BK272.out hb); replace BK273 := am (pkb BK273.out hb); replace HB := am (below_step pB hb); (try clear hb)))
                 go_meet
                 case rel => exact ⟨_, (false), (t312), (by first | rfl | (simp; done) | (simp [*]; done)), (by first | rfl | (simp; done) | (simp [*]; done)), H', ⟨by have := HJ4.out; have := HK2.out; have := HK3.out; have := HK4.out; have := HK5.out; first | omega | exact Nat.le_refl _⟩, ⟨by (with_reducible repeat (first | apply Kd.R_alloc | apply Kd.R_drewN | apply Kd.R_drew)); exact HO_8.out⟩, ⟨by (with_reducible repeat (first | apply Kd.V_alloc | apply Kd.V_drewN | apply Kd.V_drew)); exact HO_273000.out⟩, ⟨by (with_reducible repeat (first | apply Kd.V_alloc | apply Kd.V_drewN | apply Kd.V_drew)); exact HO_273001.out⟩, ⟨by (with_reducible repeat (first | apply Kd.V_alloc | apply Kd.V_drewN | apply Kd.V_drew)); exact HO_273002.out⟩, ⟨by (with_reducible repeat (first | apply Kd.V_alloc | apply Kd.V_drewN | apply Kd.V_drew)); exact HO_273003.out⟩, ⟨by (with_reducible repeat (first | refine blk_drewN ?_ _ | refine blk_drew ?_ | refine blk_alloc ?_ _)); exact BK272.out⟩, ⟨by (with_reducible repeat (first | refine blk_drewN ?_ _ | refine blk_drew ?_ | refine blk_alloc ?_ _)); exact BK273.out⟩, ⟨pB⟩⟩
              case rest =>
               clear HC84
               try clear c1
               try clear c2
               try clear p2
               try clear c3
               try clear c4
               try clear c5
               try clear c6
               try clear p6
               try clear c7
               try clear c8
               try clear c9
               try clear c10
               try clear c14
               try clear c16
               try clear c18
               try clear c18b0
               try clear c18b1
               try clear c20
               try clear c32
               try clear c33
               try clear c35
               try clear c36
               try clear c37
               try clear c38
               try clear c39
               try clear c40
               try clear c42
               try clear c56
               try clear p64
               try clear c67
               try clear c68
               try clear c75
               try clear c75b0
               try clear c77
               try clear c85
               try clear c89
               try clear c89b0
               try clear c89b1
               try clear c91
               try clear c96
               try clear c96b0
               try clear c96b1
               try clear c96b2
               try clear c98
               try clear c104
               try clear q100 q105 q106 q15 q21 q24 q43 q46 q47 q52 q55 q57 q60 q61 q69 q70 q78 q82 q86 q92 q93 q99 q9
               try clear p2
               try clear p6
               try clear p64
               obtain ⟨kq, x11_83, x12_83, rfl, rfl, HA, HJ83, HO_8, HO_273000, HO_273001, HO_273002, HO_273003, BK272, BK273, HB⟩ := hcut
               cases kq with
               | zero => exact absurd HA.out (by simp [dec_shortest.j5])
               | succ kj83 =>
                have H := HA.out
                clear HA
                simp only [dec_shortest.j5] at H
                have HC109 := am H
                clear H
                go_upto_region 18 with (fail)
                go_cut [121] (fun v121 wc => ∃ (kq : Nat) (x121_108 : Bool), v121 = .bool x121_108 ∧ Aside0 (dec_shortest.j6 kq x7_3 x8_4 x9_5 x11_83 x12_83 x121_108 x273000_5 x273001_2 x273002_4 x273003_4 ((Go.bits .and .u64 a0 1) == 0) = some (r1, r2)) ∧ Aside0 (kq ≤ kj83) ∧ Aside0 (Kd.R (Kd.int .u8) 5 wc w.heap.size (fun _ => True) u8 x8_4) ∧ Aside0 (Kd.V (Kd.int .u32) 74 wc w.heap.size (fun k_ => some k_ ≠ (u8 : Value).ownBlock ∧ k_ ≠ gb272 ∧ k_ ≠ gb273) (.slice Ao87 x273000_5.length co87) x273000_5) ∧ Aside0 (Kd.V (Kd.int .u32) 74 wc w.heap.size (fun k_ => some k_ ≠ (u8 : Value).ownBlock ∧ k_ ≠ gb272 ∧ k_ ≠ gb273) (.slice Ao58 x273001_2.length co58) x273001_2) ∧ Aside0 (Kd.V (Kd.int .u32) 74 wc w.heap.size (fun k_ => some k_ ≠ (u8 : Value).ownBlock ∧ k_ ≠ gb272 ∧ k_ ≠ gb273) (.slice Ao88 x273002_4.length co88) x273002_4) ∧ Aside0 (Kd.V (Kd.int .u32) 74 wc w.heap.size (fun k_ => some k_ ≠ (u8 : Value).ownBlock ∧ k_ ≠ gb272 ∧ k_ ≠ gb273) u273003 x273003_4) ∧ Aside0 (wc.heap[gb272]? = some (.cells #[(.slice Ao87 x273000_5.length co87), (.slice Ao58 x273001_2.length co58), (.slice Ao88 x273002_4.length co88), u273003] 66 (0, 0))) ∧ Aside0 (wc.heap[gb273]? = some (.cells #[.bool ((Go.bits .and .u64 a0 1) == 0)] 4 (0, 0))) ∧ Aside0 (Below w.heap.size w wc))
                case first =>
                 have H := HC109.out
                 clear HC109
                 by_cases c110 : x11_83 = true
                 ·subst c110
                  rw [if_pos rfl] at H
                  have H' := am H
                  clear H
                  go_wp2
                  go_meet
                  case rel => exact ⟨_, (false), (by first | rfl | (simp; done) | (simp [*]; done)), H', ⟨by have := HJ4.out; have := HK2.out; have := HK3.out; have := HK4.out; have := HK5.out; have := HJ83.out; first | omega | exact Nat.le_refl _⟩, ⟨by (with_reducible repeat (first | apply Kd.R_alloc | apply Kd.R_drewN | apply Kd.R_drew)); exact HO_8.out⟩, ⟨by (with_reducible repeat (first | apply Kd.V_alloc | apply Kd.V_drewN | apply Kd.V_drew)); exact HO_273000.out⟩, ⟨by (with_reducible repeat (first | apply Kd.V_alloc | apply Kd.V_drewN | apply Kd.V_drew)); exact HO_273001.out⟩, ⟨by (with_reducible repeat (first | apply Kd.V_alloc | apply Kd.V_drewN | apply Kd.V_drew)); exact HO_273002.out⟩, ⟨by (with_reducible repeat (first | apply Kd.V_alloc | apply Kd.V_drewN | apply Kd.V_drew)); exact HO_273003.out⟩, ⟨by (with_reducible repeat (first | refine blk_drewN ?_ _ | refine blk_drew ?_ | refine blk_alloc ?_ _)); exact BK272.out⟩, ⟨by (with_reducible repeat (first | refine blk_drewN ?_ _ | refine blk_drew ?_ | refine blk_alloc ?_ _)); exact BK273.out⟩, ⟨pB⟩⟩
                 ·replace c110 := Bool.eq_false_iff.mpr c110
                  subst c110
                  rw [if_neg (show ¬ (false = true) by decide)] at H
                  have H' := am H
                  clear H
                  go_wp2
                  go_meet
                  case rel => exact ⟨_, (!x12_83), (by first | rfl | (simp; done) | (simp [*]; done)), H', ⟨by have := HJ4.out; have := HK2.out; have := HK3.out; have := HK4.out; have := HK5.out; have := HJ83.out; first | omega | exact Nat.le_refl _⟩, ⟨by (with_reducible repeat (first | apply Kd.R_alloc | apply Kd.R_drewN | apply Kd.R_drew)); exact HO_8.out⟩, ⟨by (with_reducible repeat (first | apply Kd.V_alloc | apply Kd.V_drewN | apply Kd.V_drew)); exact HO_273000.out⟩, ⟨by (with_reducible repeat (first | apply Kd.V_alloc | apply Kd.V_drewN | apply Kd.V_drew)); exact HO_273001.out⟩, ⟨by (with_reducible repeat (first | apply Kd.V_alloc | apply Kd.V_drewN | apply Kd.V_drew)); exact HO_273002.out⟩, ⟨by (with_reducible repeat (first | apply Kd.V_alloc | apply Kd.V_drewN | apply Kd.V_drew)); exact HO_273003.out⟩, ⟨by (with_reducible repeat (first | refine blk_drewN ?_ _ | refine blk_drew ?_ | refine blk_alloc ?_ _)); exact BK272.out⟩, ⟨by (with_reducible repeat (first | refine blk_drewN ?_ _ | refine blk_drew ?_ | refine blk_alloc ?_ _)); exact BK273.out⟩, ⟨pB⟩⟩
                case rest =>
                 clear HC109
                 try clear c1
                 try clear c2
                 try clear p2
                 try clear c3
                 try clear c4
                 try clear c5
                 try clear c6
                 try clear p6
                 try clear c7
                 try clear c8
                 try clear c9
                 try clear c10
                 try clear c11
                 try clear c14
                 try clear c16
                 try clear c18
                 try clear c18b0
                 try clear c18b1
                 try clear c20
                 try clear c32
                 try clear c33
                 try clear c35
                 try clear c36
                 try clear c37
                 try clear c38
                 try clear c39
                 try clear c40
                 try clear c42
                 try clear c56
                 try clear p64
                 try clear c67
                 try clear c68
                 try clear c75
                 try clear c75b0
                 try clear c77
                 try clear c85
                 try clear c89
                 try clear c89b0
                 try clear c89b1
                 try clear c91
                 try clear c96
                 try clear c96b0
                 try clear c96b1
                 try clear c96b2
                 try clear c98
                 try clear c104
                 try clear c110
                 try clear q100 q105 q106 q15 q21 q24 q43 q46 q47 q52 q55 q57 q60 q61 q69 q70 q78 q82 q86 q92 q93 q99 q9
                 try clear p2
                 try clear p6
                 try clear p64
                 obtain ⟨kq, x121_108, rfl, HA, HJ108, HO_8, HO_273000, HO_273001, HO_273002, HO_273003, BK272, BK273, HB⟩ := hcut
                 cases kq with
                 | zero => exact absurd HA.out (by simp [dec_shortest.j6])
                 | succ kj108 =>
                  have H := HA.out
                  clear HA
                  simp only [dec_shortest.j6] at H
                  by_cases c111 : x121_108 = true
                  ·subst c111
                   rw [if_pos rfl] at H
                   by_cases c112 : x8_4.length < 140737488355328
                   ·rw [if_pos c112] at H
                    have LMc112 := am c112
                    clear c112
                    obtain ⟨y313, hy313⟩ : ∃ y_ : List Int, y_ = (x8_4 ++ [(48 + x9_5) % 256]) := ⟨_, rfl⟩
                    replace H : ((dec_big_times.f kj108 x273000_5 10 0).bind fun t316 => ((dec_big_times.f kj108 x273002_4 10 0).bind fun t319 => ((dec_big_times.f kj108 x273003_4 10 0).bind fun t322 => (dec_shortest.l2 kj108 x7_3 y313 t316 x273001_2 t319 t322 ((Go.bits .and .u64 a0 1) == 0))))) = some (r1, r2) := by first | (rw [hy313]; with_reducible exact H) | (have H2_ := (Option.bind_some _ _).symm.trans H; rw [hy313]; with_reducible exact H2_) | (have H2_ := (Option.bind_some _ _).symm.trans H; with_reducible exact H2_) | with_reducible exact H | (rw [hy313]; exact H) | exact H
                    have Ny313 := am hy313
                    clear hy313
                    replace H := Option.bind_eq_some_iff.mp H
                    obtain ⟨t316, A1130, H⟩ := H
                    try dsimp only at H
                    have A113 := am A1130
                    clear A1130
                    replace H := Option.bind_eq_some_iff.mp H
                    obtain ⟨t319, A1140, H⟩ := H
                    try dsimp only at H
                    have A114 := am A1140
                    clear A1140
                    replace H := Option.bind_eq_some_iff.mp H
                    obtain ⟨t322, A1150, H⟩ := H
                    try dsimp only at H
                    have A115 := am A1150
                    clear A1150
                    have H' := am H
                    clear H
                    try go_wp2_with (first | ((with_reducible refine gate_builtin (b := .append) (xs := #[.tmp 122, .tmp 125]) rfl ?_); at_builtin; refine Kd.R_append (Kd.int .u8) (w0 := w) w.heap.size rfl (.tmp 122) (.tmp 125) 35 5 (.int .u8 0) 1 rfl Tryd.underlying35 info5 rfl (by decide) (by omega) u8 x8_4 ((48 + x9_5) % 256) [.int .u8 ((48 + x9_5) % 256)] (fun _ => True) (fun _ => False) rfl rfl ?aP (fun _ hk => hk.elim) ?aF ?aO ?aB ?aS ?aL ?_; (case aP => exact rfl); (case aB => exact pB); (case aF => exact (fun _ _ => trivial)); (case aO => exact (pR HO_8.out)); (case aS => exact (below_size pB)); (case aL => have := LMc112.out; omega); intro v314 w116 ho hb hg hat; rw [← Ny313.out] at ho; replace HO_273000 := am (Kd.V_afterv (ok := (fun k_ => k_ ≠ gb272 ∧ k_ ≠ gb273)) (by (with_reducible repeat (first | apply Kd.V_alloc | apply Kd.V_drewN | apply Kd.V_drew)); exact Kd.V_mono HO_273000.out (fun _ hk => ⟨⟨hk.2.1, hk.2.2⟩, hk.1⟩)) hg hat); replace HO_273001 := am (Kd.V_afterv (ok := (fun k_ => k_ ≠ gb272 ∧ k_ ≠ gb273)) (by (with_reducible repeat (first | apply Kd.V_alloc | apply Kd.V_drewN | apply Kd.V_drew)); exact Kd.V_mono HO_273001.out (fun _ hk => ⟨⟨hk.2.1, hk.2.2⟩, hk.1⟩)) hg hat); replace HO_273002 := am (Kd.V_afterv (ok := (fun k_ => k_ ≠ gb272 ∧ k_ ≠ gb273)) (by (with_reducible repeat (first | apply Kd.V_alloc | apply Kd.V_drewN | apply Kd.V_drew)); exact Kd.V_mono HO_273002.out (fun _ hk => ⟨⟨hk.2.1, hk.2.2⟩, hk.1⟩)) hg hat); replace HO_273003 := am (Kd.V_afterv (ok := (fun k_ => k_ ≠ gb272 ∧ k_ ≠ gb273)) (by (with_reducible repeat (first | apply Kd.V_alloc | apply Kd.V_drewN | apply Kd.V_drew)); exact Kd.V_mono HO_273003.out (fun _ hk => ⟨⟨hk.2.1, hk.2.2⟩, hk.1⟩)) hg hat); replace BK272 := am (blk_grown (g := gb272) (o := .cells #[.slice Ao87 x273000_5.length co87, .slice Ao58 x273001_2.length co58, .slice Ao88 x273002_4.length co88, u273003] 66 (0, 0)) (pK BK272.out) hg (pX HO_8.out BK272.out)); replace BK273 := am (blk_grown (g := gb273) (o := .cells #[.bool ((Go.bits .and .u64 a0 1) == 0)] 4 (0, 0)) (pK BK273.out) hg (pX HO_8.out BK273.out)); replace HB := am (hb); have HO315 := am (ho); clear HO_8; clear ho hb hg hat))
                    replace HO_273000 := am (Kd.V_drew HO_273000.out)
                    replace HO_273001 := am (Kd.V_drew HO_273001.out)
                    replace HO_273002 := am (Kd.V_drew HO_273002.out)
                    replace HO_273003 := am (Kd.V_drew HO_273003.out)
                    replace HO315 := am (Kd.R_drew HO315.out)
                    replace BK272 := am (blk_drew BK272.out)
                    replace BK273 := am (blk_drew BK273.out)
                    replace HB := am (below_drew1 HB.out)
                    refine start_ (n := 15) (S := fun w' => w'.cell? ⟨gb272, 0, none⟩ = some (.slice Ao87 x273000_5.length co87) ∧ w'.cell? ⟨gb272, 1, none⟩ = some (.slice Ao58 x273001_2.length co58) ∧ w'.cell? ⟨gb272, 2, none⟩ = some (.slice Ao88 x273002_4.length co88) ∧ w'.cell? ⟨gb272, 3, none⟩ = some (u273003)) (ds := [10, 12, 14]) (bm 15 0) (by kernel_rfl) rfl rfl ⟨cz0 BK272.out, cz1 BK272.out, cz2 BK272.out, cz3 BK272.out⟩ (fun hHeld => ?_); refine with_tabW dec_shortest.tab20 dec_shortest.bits20 (fun HT_ HW_ => ?_)
                    generalize w116.drew = w117 at HO_273000 HO_273001 HO_273002 HO_273003 HO315 BK272 BK273 HB hHeld ⊢
                    refine pure_ (i := 0) (N := some 127) (v := ?_) (a' := ?_) (bm 15 1) rfl rfl (any_of HT_.out (by kernel_rfl)) (fun _ _ _ h => h) (Or.inl ⟨by kernel_rfl, ?_⟩) ?_ ?_
                    rotate_left
                    ·intro w'
                     go_simp
                     with_reducible rfl
                    rotate_left
                    ·exact pA
                    refine pure_ (i := 3) (N := some 130) (v := ?_) (a' := ?_) (bm 15 9) rfl rfl (any_of HT_.out (by kernel_rfl)) (fun _ _ _ h => h) (Or.inl ⟨by kernel_rfl, ?_⟩) ?_ ?_
                    rotate_left
                    ·intro w'
                     go_simp
                     with_reducible rfl
                    rotate_left
                    ·exact pA
                    refine pure_ (i := 6) (N := some 133) (v := ?_) (a' := ?_) (bm 15 73) rfl rfl (any_of HT_.out (by kernel_rfl)) (fun _ _ _ h => h) (Or.inl ⟨by kernel_rfl, ?_⟩) ?_ ?_
                    rotate_left
                    ·intro w'
                     go_simp
                     with_reducible rfl
                    rotate_left
                    ·exact pA
                    refine take_ (i := 1) (N := some 128) (v := ?_) (a' := ?_) (bm 15 75) rfl rfl (take_ofW HT_.out HW_.out (by kernel_rfl)) (fun _ _ _ h => h) (Or.inl ⟨by kernel_rfl, ?_⟩) hHeld ?_ ?_
                    rotate_left
                    ·rintro w' ⟨s0, s1, s2, s3⟩
                     go_simp
                     with_reducible rfl
                    rotate_left
                    ·exact pA
                    refine take_ (i := 4) (N := some 131) (v := ?_) (a' := ?_) (bm 15 91) rfl rfl (take_ofW HT_.out HW_.out (by kernel_rfl)) (fun _ _ _ h => h) (Or.inl ⟨by kernel_rfl, ?_⟩) hHeld ?_ ?_
                    rotate_left
                    ·rintro w' ⟨s0, s1, s2, s3⟩
                     go_simp
                     with_reducible rfl
                    rotate_left
                    ·exact pA
                    refine take_ (i := 7) (N := some 134) (v := ?_) (a' := ?_) (bm 15 219) rfl rfl (take_ofW HT_.out HW_.out (by kernel_rfl)) (fun _ _ _ h => h) (Or.inl ⟨by kernel_rfl, ?_⟩) hHeld ?_ ?_
                    rotate_left
                    ·rintro w' ⟨s0, s1, s2, s3⟩
                     go_simp
                     with_reducible rfl
                    rotate_left
                    ·exact pA
                    refine one_ (i := 2) (N := some 129) (bm 15 223) rfl rfl (one_of HT_.out (by kernel_rfl)) (by decide) (fun K hK => ?_)
                    refine goes_ Tryd.func38 (by kernel_rfl) rfl #[.slice Ao87 x273000_5.length co87, .int .u32 10, .int .u32 0] (by rfl) rfl rfl pM ?_
                    with_reducible refine (dec_big_times.calls kj108 _ _ x273000_5 10 0 t316 _ ?side1 ?side2 A113.out).mono ?_
                    (case side1 => repeat (first | exact (Kd.V_reads' HO_273000.out).2.2 | (with_reducible refine Kd.C_alloc ?_ _) | (with_reducible refine Kd.C_drewN ?_ _) | (with_reducible refine Kd.C_drew ?_)))
                    (case side2 => exact (Kd.V_reads' HO_273000.out).2.1)
                    rintro e w118 ⟨v317, rfl, ho0, hb⟩
                    refine ⟨_, rfl, ?_⟩
                    have n0_ := am (Kd.V_below (pV HO_273000.out) hb)
                    have n1_ := am (Kd.V_below (pV HO_273001.out) hb)
                    have n2_ := am (Kd.V_below (pV HO_273002.out) hb)
                    have n3_ := am (Kd.V_below (pV HO_273003.out) hb)
                    have n4_ := am (Kd.R_below (pR HO315.out) hb)
                    have n5_ := am (Kd.V_lower (Kd.V_mono (ok' := fun k_ => some k_ ≠ (v314 : Value).ownBlock ∧ k_ ≠ gb272 ∧ k_ ≠ gb273) ho0 (fun k_ hk_ => ⟨(Kd.fresh' (Kd.R_lt (pR HO315.out)) k_ hk_), (Kd.freshB (g := gb272) (o := .cells #[.slice Ao87 x273000_5.length co87, .slice Ao58 x273001_2.length co58, .slice Ao88 x273002_4.length co88, u273003] 66 (0, 0)) (pK BK272.out) k_ hk_), (Kd.freshB (g := gb273) (o := .cells #[.bool ((Go.bits .and .u64 a0 1) == 0)] 4 (0, 0)) (pK BK273.out) k_ hk_)⟩)) (below_size pB))
                    have n6_ := am (pkb BK272.out hb)
                    have n7_ := am (pkb BK273.out hb)
                    have n8_ := am (below_step pB hb)
                    clear HO_273000 HO_273001 HO_273002 HO_273003 HO315 BK272 BK273 HB; have HO_273000 := n0_; have HO_273001 := n1_; have HO_273002 := n2_; have HO_273003 := n3_; have HO315 := n4_; have HO318 := n5_; have BK272 := n6_; have BK273 := n7_; have HB := n8_; clear n0_ n1_ n2_ n3_ n4_ n5_ n6_ n7_ n8_; (try clear hb); (try clear ho0)
                    refine hK.out _ _ ⟨cz0 BK272.out, cz1 BK272.out, cz2 BK272.out, cz3 BK272.out⟩ (fun hHeld => ?_)
                    clear hK K
                    refine norm_ (a' := ?_) ?_ ?_
                    rotate_left
                    ·show Act.put _ (some 129) _ = _
                     exact pA
                    refine pure_ (i := 9) (N := some 136) (v := ?_) (a' := ?_) (bm 15 735) rfl rfl (any_of HT_.out (by kernel_rfl)) (fun _ _ _ h => h) (Or.inl ⟨by kernel_rfl, ?_⟩) ?_ ?_
                    rotate_left
                    ·intro w'
                     go_simp
                     with_reducible rfl
                    rotate_left
                    ·exact pA
                    refine one_ (i := 5) (N := some 132) (bm 15 767) rfl rfl (one_of HT_.out (by kernel_rfl)) (by decide) (fun K hK => ?_)
                    refine goes_ Tryd.func38 (by kernel_rfl) rfl #[.slice Ao88 x273002_4.length co88, .int .u32 10, .int .u32 0] (by rfl) rfl rfl pM ?_
                    with_reducible refine (dec_big_times.calls kj108 _ _ x273002_4 10 0 t319 _ ?side1 ?side2 A114.out).mono ?_
                    (case side1 => repeat (first | exact (Kd.V_reads' HO_273002.out).2.2 | (with_reducible refine Kd.C_alloc ?_ _) | (with_reducible refine Kd.C_drewN ?_ _) | (with_reducible refine Kd.C_drew ?_)))
                    (case side2 => exact (Kd.V_reads' HO_273002.out).2.1)
                    rintro e w119 ⟨v320, rfl, ho0, hb⟩
                    refine ⟨_, rfl, ?_⟩
                    have n0_ := am (Kd.V_below (pV HO_273000.out) hb)
                    have n1_ := am (Kd.V_below (pV HO_273001.out) hb)
                    have n2_ := am (Kd.V_below (pV HO_273002.out) hb)
                    have n3_ := am (Kd.V_below (pV HO_273003.out) hb)
                    have n4_ := am (Kd.R_below (pR HO315.out) hb)
                    have n5_ := am (Kd.V_below (pV HO318.out) hb)
                    have n6_ := am (Kd.V_lower (Kd.V_mono (ok' := fun k_ => some k_ ≠ (v314 : Value).ownBlock ∧ k_ ≠ gb272 ∧ k_ ≠ gb273) ho0 (fun k_ hk_ => ⟨(Kd.fresh' (Kd.R_lt (pR HO315.out)) k_ hk_), (Kd.freshB (g := gb272) (o := .cells #[.slice Ao87 x273000_5.length co87, .slice Ao58 x273001_2.length co58, .slice Ao88 x273002_4.length co88, u273003] 66 (0, 0)) (pK BK272.out) k_ hk_), (Kd.freshB (g := gb273) (o := .cells #[.bool ((Go.bits .and .u64 a0 1) == 0)] 4 (0, 0)) (pK BK273.out) k_ hk_)⟩)) (below_size pB))
                    have n7_ := am (pkb BK272.out hb)
                    have n8_ := am (pkb BK273.out hb)
                    have n9_ := am (below_step pB hb)
                    clear HO_273000 HO_273001 HO_273002 HO_273003 HO315 HO318 BK272 BK273 HB; have HO_273000 := n0_; have HO_273001 := n1_; have HO_273002 := n2_; have HO_273003 := n3_; have HO315 := n4_; have HO318 := n5_; have HO321 := n6_; have BK272 := n7_; have BK273 := n8_; have HB := n9_; clear n0_ n1_ n2_ n3_ n4_ n5_ n6_ n7_ n8_ n9_; (try clear hb); (try clear ho0)
                    obtain ⟨Ao120, co120, eo120⟩ := Kd.V_slice HO_273003.out
                    (first | subst eo120 | (injection eo120 with f1_ f2_ f3_; have f4_ := f1_.symm; have f5_ := f3_.symm; clear f1_ f2_ f3_; subst f4_; subst f5_))
                    refine hK.out _ _ ⟨cz0 BK272.out, cz1 BK272.out, cz2 BK272.out, cz3 BK272.out⟩ (fun hHeld => ?_)
                    clear hK K
                    refine norm_ (a' := ?_) ?_ ?_
                    rotate_left
                    ·show Act.put _ (some 132) _ = _
                     exact pA
                    refine one_ (i := 8) (N := some 135) (bm 15 1023) rfl rfl (one_of HT_.out (by kernel_rfl)) (by decide) (fun K hK => ?_)
                    refine goes_ Tryd.func38 (by kernel_rfl) rfl #[.slice Ao120 x273003_4.length co120, .int .u32 10, .int .u32 0] (by rfl) rfl rfl pM ?_
                    with_reducible refine (dec_big_times.calls kj108 _ _ x273003_4 10 0 t322 _ ?side1 ?side2 A115.out).mono ?_
                    (case side1 => repeat (first | exact (Kd.V_reads' HO_273003.out).2.2 | (with_reducible refine Kd.C_alloc ?_ _) | (with_reducible refine Kd.C_drewN ?_ _) | (with_reducible refine Kd.C_drew ?_)))
                    (case side2 => exact (Kd.V_reads' HO_273003.out).2.1)
                    rintro e w121 ⟨v323, rfl, ho0, hb⟩
                    refine ⟨_, rfl, ?_⟩
                    have n0_ := am (Kd.V_below (pV HO_273000.out) hb)
                    have n1_ := am (Kd.V_below (pV HO_273001.out) hb)
                    have n2_ := am (Kd.V_below (pV HO_273002.out) hb)
                    have n3_ := am (Kd.V_below (pV HO_273003.out) hb)
                    have n4_ := am (Kd.R_below (pR HO315.out) hb)
                    have n5_ := am (Kd.V_below (pV HO318.out) hb)
                    have n6_ := am (Kd.V_below (pV HO321.out) hb)
                    have n7_ := am (Kd.V_lower (Kd.V_mono (ok' := fun k_ => some k_ ≠ (v314 : Value).ownBlock ∧ k_ ≠ gb272 ∧ k_ ≠ gb273) ho0 (fun k_ hk_ => ⟨(Kd.fresh' (Kd.R_lt (pR HO315.out)) k_ hk_), (Kd.freshB (g := gb272) (o := .cells #[.slice Ao87 x273000_5.length co87, .slice Ao58 x273001_2.length co58, .slice Ao88 x273002_4.length co88, .slice Ao120 x273003_4.length co120] 66 (0, 0)) (pK BK272.out) k_ hk_), (Kd.freshB (g := gb273) (o := .cells #[.bool ((Go.bits .and .u64 a0 1) == 0)] 4 (0, 0)) (pK BK273.out) k_ hk_)⟩)) (below_size pB))
                    have n8_ := am (pkb BK272.out hb)
                    have n9_ := am (pkb BK273.out hb)
                    have n10_ := am (below_step pB hb)
                    clear HO_273000 HO_273001 HO_273002 HO_273003 HO315 HO318 HO321 BK272 BK273 HB; have HO_273000 := n0_; have HO_273001 := n1_; have HO_273002 := n2_; have HO_273003 := n3_; have HO315 := n4_; have HO318 := n5_; have HO321 := n6_; have HO324 := n7_; have BK272 := n8_; have BK273 := n9_; have HB := n10_; clear n0_ n1_ n2_ n3_ n4_ n5_ n6_ n7_ n8_ n9_ n10_; (try clear hb); (try clear ho0)
                    obtain ⟨Ao122, co122, eo122⟩ := Kd.V_slice HO318.out
                    (first | subst eo122 | (injection eo122 with f1_ f2_ f3_; have f4_ := f1_.symm; have f5_ := f3_.symm; clear f1_ f2_ f3_; subst f4_; subst f5_))
                    obtain ⟨Ao124, co124, eo124⟩ := Kd.V_slice HO321.out
                    (first | subst eo124 | (injection eo124 with f1_ f2_ f3_; have f4_ := f1_.symm; have f5_ := f3_.symm; clear f1_ f2_ f3_; subst f4_; subst f5_))
                    obtain ⟨Ao126, co126, eo126⟩ := Kd.V_slice HO324.out
                    (first | subst eo126 | (injection eo126 with f1_ f2_ f3_; have f4_ := f1_.symm; have f5_ := f3_.symm; clear f1_ f2_ f3_; subst f4_; subst f5_))
                    refine hK.out _ _ ⟨cz0 BK272.out, cz1 BK272.out, cz2 BK272.out, cz3 BK272.out⟩ (fun hHeld => ?_)
                    clear hK K
                    refine norm_ (a' := ?_) ?_ ?_
                    rotate_left
                    ·show Act.put _ (some 135) _ = _
                     exact pA
                    refine last_ (i := 10) (N := none) (bm 15 2047) rfl rfl (one_of HT_.out (by kernel_rfl)) (by decide) (fun K hK => ?_)
                    have hs123 : w121.cell? ⟨gb272, 0, none⟩ = some (.slice Ao87 x273000_5.length co87) := cz0 BK272.out
                    have hfs123 := blk_frozen BK272.out 0
                    have hns123_1 := NB273_272.out
                    have hms123_1 := NB272_273.out
                    refine skip_ (w1 := ?_) ?hw rfl ?_ ?_; (case hw => kernel_rfl)
                    rotate_left
                    ·go_simp
                     rfl
                    refine hK.out _ _ ?_
                    clear hK K
                    refine pure_ (i := 11) (N := some 137) (v := ?_) (a' := ?_) (bm 15 4095) rfl rfl (any_of HT_.out (by kernel_rfl)) (fun _ _ _ h => h) (Or.inl ⟨by kernel_rfl, ?_⟩) ?_ ?_
                    rotate_left
                    ·intro w'
                     go_simp
                     with_reducible rfl
                    rotate_left
                    ·exact pA
                    refine last_ (i := 12) (N := none) (bm 15 8191) rfl rfl (one_of HT_.out (by kernel_rfl)) (by decide) (fun K hK => ?_)
                    have hs125 : w121.cell? ⟨gb272, 2, none⟩ = some (.slice Ao88 x273002_4.length co88) := cz2 BK272.out
                    have hfs125 := blk_frozen BK272.out 2
                    have hns125_1 := NB273_272.out
                    have hms125_1 := NB272_273.out
                    refine skip_ (w1 := ?_) ?hw rfl ?_ ?_; (case hw => kernel_rfl)
                    rotate_left
                    ·go_simp
                     rfl
                    refine hK.out _ _ ?_
                    clear hK K
                    refine pure_ (i := 13) (N := some 138) (v := ?_) (a' := ?_) (bm 15 16383) rfl rfl (any_of HT_.out (by kernel_rfl)) (fun _ _ _ h => h) (Or.inl ⟨by kernel_rfl, ?_⟩) ?_ ?_
                    rotate_left
                    ·intro w'
                     go_simp
                     with_reducible rfl
                    rotate_left
                    ·exact pA
                    refine last_ (i := 14) (N := none) (bm 15 32767) rfl rfl (one_of HT_.out (by kernel_rfl)) (by decide) (fun K hK => ?_)
                    have hs127 : w121.cell? ⟨gb272, 3, none⟩ = some (.slice Ao120 x273003_4.length co120) := cz3 BK272.out
                    have hfs127 := blk_frozen BK272.out 3
                    have hns127_1 := NB273_272.out
                    have hms127_1 := NB272_273.out
                    refine skip_ (w1 := ?_) ?hw rfl ?_ ?_; (case hw => kernel_rfl)
                    rotate_left
                    ·go_simp
                     rfl
                    refine hK.out _ _ ?_
                    clear hK K
                    refine done_ (done_of HT_.out (by kernel_rfl)) ?_
                    try go_wp2
                    go_roundg kj108
                    case measure => have := HJ4.out; have := HK2.out; have := HK3.out; have := HK4.out; have := HK5.out; have := HJ83.out; have := HJ108.out; omega
                    case rel => exact ⟨(y313), (t316), (t319), (t322), (.slice Ao122 t316.length co122), (.slice Ao124 t319.length co124), (.slice Ao126 t322.length co126), H', ⟨by have := HJ4.out; have := HK2.out; have := HK3.out; have := HK4.out; have := HK5.out; have := HJ83.out; have := HJ108.out; omega⟩, ⟨by (with_reducible repeat (first | apply Kd.R_alloc | apply Kd.R_drewN | apply Kd.R_drew)); exact Kd.R_mono (Kd.R_far (p := ⟨gb272, 3, none⟩) (Kd.R_far (p := ⟨gb272, 2, none⟩) (Kd.R_far (p := ⟨gb272, 0, none⟩) (Kd.R_types HO315.out BK272.out (by decide)) (fun _ hk => hk.2) (.slice Ao122 t316.length co122)) (fun _ hk => hk.2) (.slice Ao124 t319.length co124)) (fun _ hk => hk.2) (.slice Ao126 t322.length co126)) (fun _ hk => trivial)⟩, ⟨by (with_reducible repeat (first | apply Kd.V_alloc | apply Kd.V_drewN | apply Kd.V_drew)); exact Kd.V_mono (Kd.V_far (p := ⟨gb272, 3, none⟩) (Kd.V_far (p := ⟨gb272, 2, none⟩) (Kd.V_far (p := ⟨gb272, 0, none⟩) (Kd.V_mono HO318.out (fun k_ hk => (⟨hk, hk.2.1⟩ : _ ∧ k_ ≠ gb272))) (fun _ hk => hk.2) (.slice Ao122 t316.length co122)) (fun _ hk => hk.2) (.slice Ao124 t319.length co124)) (fun _ hk => hk.2) (.slice Ao126 t322.length co126)) (fun _ hk => ⟨hk.1.1, ⟨hk.1.2.1, hk.1.2.2⟩⟩)⟩, ⟨by (with_reducible repeat (first | apply Kd.V_alloc | apply Kd.V_drewN | apply Kd.V_drew)); exact Kd.V_mono (Kd.V_far (p := ⟨gb272, 3, none⟩) (Kd.V_far (p := ⟨gb272, 2, none⟩) (Kd.V_far (p := ⟨gb272, 0, none⟩) (Kd.V_mono HO_273001.out (fun k_ hk => (⟨hk, hk.1.1⟩ : _ ∧ k_ ≠ gb272))) (fun _ hk => hk.2) (.slice Ao122 t316.length co122)) (fun _ hk => hk.2) (.slice Ao124 t319.length co124)) (fun _ hk => hk.2) (.slice Ao126 t322.length co126)) (fun _ hk => ⟨hk.1.2, ⟨hk.1.1.1, hk.1.1.2⟩⟩)⟩, ⟨by (with_reducible repeat (first | apply Kd.V_alloc | apply Kd.V_drewN | apply Kd.V_drew)); exact Kd.V_mono (Kd.V_far (p := ⟨gb272, 3, none⟩) (Kd.V_far (p := ⟨gb272, 2, none⟩) (Kd.V_far (p := ⟨gb272, 0, none⟩) (Kd.V_mono HO321.out (fun k_ hk => (⟨hk, hk.2.1⟩ : _ ∧ k_ ≠ gb272))) (fun _ hk => hk.2) (.slice Ao122 t316.length co122)) (fun _ hk => hk.2) (.slice Ao124 t319.length co124)) (fun _ hk => hk.2) (.slice Ao126 t322.length co126)) (fun _ hk => ⟨hk.1.1, ⟨hk.1.2.1, hk.1.2.2⟩⟩)⟩, ⟨by (with_reducible repeat (first | apply Kd.V_alloc | apply Kd.V_drewN | apply Kd.V_drew)); exact Kd.V_mono (Kd.V_far (p := ⟨gb272, 3, none⟩) (Kd.V_far (p := ⟨gb272, 2, none⟩) (Kd.V_far (p := ⟨gb272, 0, none⟩) (Kd.V_mono HO324.out (fun k_ hk => (⟨hk, hk.2.1⟩ : _ ∧ k_ ≠ gb272))) (fun _ hk => hk.2) (.slice Ao122 t316.length co122)) (fun _ hk => hk.2) (.slice Ao124 t319.length co124)) (fun _ hk => hk.2) (.slice Ao126 t322.length co126)) (fun _ hk => ⟨hk.1.1, ⟨hk.1.2.1, hk.1.2.2⟩⟩)⟩, ⟨by (with_reducible repeat (first | refine blk_drewN ?_ _ | refine blk_drew ?_ | refine blk_alloc ?_ _)); refine blk_put (cs := #[.slice Ao122 t316.length co122, .slice Ao58 x273001_2.length co58, .slice Ao124 t319.length co124, .slice Ao120 x273003_4.length co120]) ?_ 3 _ rfl; (with_reducible repeat (first | refine blk_drewN ?_ _ | refine blk_drew ?_ | refine blk_alloc ?_ _)); refine blk_put (cs := #[.slice Ao122 t316.length co122, .slice Ao58 x273001_2.length co58, .slice Ao88 x273002_4.length co88, .slice Ao120 x273003_4.length co120]) ?_ 2 _ rfl; (with_reducible repeat (first | refine blk_drewN ?_ _ | refine blk_drew ?_ | refine blk_alloc ?_ _)); refine blk_put (cs := #[.slice Ao87 x273000_5.length co87, .slice Ao58 x273001_2.length co58, .slice Ao88 x273002_4.length co88, .slice Ao120 x273003_4.length co120]) ?_ 0 _ rfl; (with_reducible repeat (first | refine blk_drewN ?_ _ | refine blk_drew ?_ | refine blk_alloc ?_ _)); exact BK272.out⟩, ⟨by (with_reducible repeat (first | refine blk_drewN ?_ _ | refine blk_drew ?_ | refine blk_alloc ?_ _)); refine blk_far ?_ NB273_272.out _; (with_reducible repeat (first | refine blk_drewN ?_ _ | refine blk_drew ?_ | refine blk_alloc ?_ _)); refine blk_far ?_ NB273_272.out _; (with_reducible repeat (first | refine blk_drewN ?_ _ | refine blk_drew ?_ | refine blk_alloc ?_ _)); refine blk_far ?_ NB273_272.out _; (with_reducible repeat (first | refine blk_drewN ?_ _ | refine blk_drew ?_ | refine blk_alloc ?_ _)); exact BK273.out⟩, ⟨pB⟩⟩
                   ·rw [if_neg c112] at H
                    exact absurd H (by simp)
                  ·replace c111 := Bool.eq_false_iff.mpr c111
                   subst c111
                   rw [if_neg (show ¬ (false = true) by decide)] at H
                   replace H := Option.bind_eq_some_iff.mp H
                   obtain ⟨t325, A1280, H⟩ := H
                   try dsimp only at H
                   have A128 := am A1280
                   clear A1280
                   replace H := Option.bind_eq_some_iff.mp H
                   obtain ⟨t328, A1290, H⟩ := H
                   try dsimp only at H
                   have A129 := am A1290
                   clear A1290
                   have HH_ := am H
                   clear H
                   try go_wp2
                   replace HO_8 := am (Kd.R_drew HO_8.out)
                   replace HO_273000 := am (Kd.V_drew HO_273000.out)
                   replace HO_273001 := am (Kd.V_drew HO_273001.out)
                   replace HO_273002 := am (Kd.V_drew HO_273002.out)
                   replace HO_273003 := am (Kd.V_drew HO_273003.out)
                   replace BK272 := am (blk_drew BK272.out)
                   replace BK273 := am (blk_drew BK273.out)
                   replace HB := am (below_drew1 HB.out)
                   refine start_ (n := 7) (S := fun w' => w'.cell? ⟨gb272, 0, none⟩ = some (.slice Ao87 x273000_5.length co87) ∧ w'.cell? ⟨gb272, 1, none⟩ = some (.slice Ao58 x273001_2.length co58) ∧ w'.cell? ⟨gb272, 2, none⟩ = some (.slice Ao88 x273002_4.length co88) ∧ w'.cell? ⟨gb272, 3, none⟩ = some (u273003)) (ds := []) (bm 7 0) (by kernel_rfl) rfl rfl ⟨cz0 BK272.out, cz1 BK272.out, cz2 BK272.out, cz3 BK272.out⟩ (fun hHeld => ?_)
                   generalize wc.drew = w135 at HO_8 HO_273000 HO_273001 HO_273002 HO_273003 BK272 BK273 HB hHeld ⊢
                   refine pure_ (i := 0) (N := some 139) (v := ?_) (a' := ?_) (bm 7 1) rfl rfl (by kernel_rfl) (fun _ _ _ h => h) (Or.inl ⟨by kernel_rfl, ?_⟩) ?_ ?_
                   rotate_left
                   ·intro w'
                    go_simp
                    with_reducible rfl
                   rotate_left
                   ·exact pA
                   refine pure_ (i := 3) (N := some 142) (v := ?_) (a' := ?_) (bm 7 9) rfl rfl (by kernel_rfl) (fun _ _ _ h => h) (Or.inl ⟨by kernel_rfl, ?_⟩) ?_ ?_
                   rotate_left
                   ·intro w'
                    go_simp
                    with_reducible rfl
                   rotate_left
                   ·exact pA
                   refine take_ (i := 1) (N := some 140) (v := ?_) (a' := ?_) (bm 7 11) rfl rfl (by kernel_rfl) (fun _ _ _ h => h) (Or.inl ⟨by kernel_rfl, ?_⟩) hHeld ?_ ?_
                   rotate_left
                   ·rintro w' ⟨s0, s1, s2, s3⟩
                    go_simp
                    with_reducible rfl
                   rotate_left
                   ·exact pA
                   refine take_ (i := 4) (N := some 143) (v := ?_) (a' := ?_) (bm 7 27) rfl rfl (by kernel_rfl) (fun _ _ _ h => h) (Or.inl ⟨by kernel_rfl, ?_⟩) hHeld ?_ ?_
                   rotate_left
                   ·rintro w' ⟨s0, s1, s2, s3⟩
                    go_simp
                    with_reducible rfl
                   rotate_left
                   ·exact pA
                   refine one_ (i := 2) (N := some 141) (bm 7 31) rfl rfl (by kernel_rfl) (by decide) (fun K hK => ?_)
                   refine goes_ Tryd.func40 (by kernel_rfl) rfl #[.slice Ao87 x273000_5.length co87, .int .i64 1] (by rfl) rfl rfl pM ?_
                   with_reducible refine (dec_big_up.calls kj108 _ _ x273000_5 1 t325 _ ?side1 ?side2 A128.out).mono ?_
                   (case side1 => repeat (first | exact (Kd.V_reads' HO_273000.out).2.2 | (with_reducible refine Kd.C_alloc ?_ _) | (with_reducible refine Kd.C_drewN ?_ _) | (with_reducible refine Kd.C_drew ?_)))
                   (case side2 => exact (Kd.V_reads' HO_273000.out).2.1)
                   rintro e w136 ⟨v326, rfl, ho0, hb⟩
                   refine ⟨_, rfl, ?_⟩
                   have n0_ := am (Kd.R_below (pR HO_8.out) hb)
                   have n1_ := am (Kd.V_elder' (pV HO_273000.out) (Kd.R_base ho0) hb)
                   have n2_ := am (Kd.V_elder' (pV HO_273001.out) (Kd.R_base ho0) hb)
                   have n3_ := am (Kd.V_elder' (pV HO_273002.out) (Kd.R_base ho0) hb)
                   have n4_ := am (Kd.V_elder' (pV HO_273003.out) (Kd.R_base ho0) hb)
                   have n5_ := am (Kd.R_lower ho0 (below_size pB))
                   have n6_ := am (pkb BK272.out hb)
                   have n7_ := am (pkb BK273.out hb)
                   have n8_ := am (below_step pB hb)
                   clear HO_8 HO_273000 HO_273001 HO_273002 HO_273003 BK272 BK273 HB; have HO_8 := n0_; have HO_273000 := n1_; have HO_273001 := n2_; have HO_273002 := n3_; have HO_273003 := n4_; have HO327 := n5_; have BK272 := n6_; have BK273 := n7_; have HB := n8_; clear n0_ n1_ n2_ n3_ n4_ n5_ n6_ n7_ n8_; (try clear hb); (try clear ho0)
                   obtain ⟨Ao137, co137, eo137⟩ := Kd.R_slice HO327.out
                   (first | subst eo137 | (injection eo137 with f1_ f2_ f3_; have f4_ := f1_.symm; have f5_ := f3_.symm; clear f1_ f2_ f3_; subst f4_; subst f5_))
                   refine hK.out _ _ ⟨cz0 BK272.out, cz1 BK272.out, cz2 BK272.out, cz3 BK272.out⟩ (fun hHeld => ?_)
                   clear hK K
                   refine norm_ (a' := ?_) ?_ ?_
                   rotate_left
                   ·show Act.put _ (some 141) _ = _
                    exact pA
                   refine one_ (i := 5) (N := some 144) (bm 7 63) rfl rfl (by kernel_rfl) (by decide) (fun K hK => ?_)
                   refine goes_ Tryd.func35 (by kernel_rfl) rfl #[.slice Ao137 t325.length co137, .slice Ao58 x273001_2.length co58] (by rfl) rfl rfl pM ?_
                   with_reducible refine (dec_big_cmp.calls kj108 _ _ t325 _ _ x273001_2 t328 _ ?side1 ?side2 ?side3 ?side4 A129.out).mono ?_
                   (case side1 => repeat (first | exact (Kd.R_reads' HO327.out).2.2 | (with_reducible refine Kd.C_alloc ?_ _) | (with_reducible refine Kd.C_drewN ?_ _) | (with_reducible refine Kd.C_drew ?_)))
                   (case side2 => exact (Kd.R_reads' HO327.out).2.1)
                   (case side3 => repeat (first | exact (Kd.V_reads' HO_273001.out).2.2 | (with_reducible refine Kd.C_alloc ?_ _) | (with_reducible refine Kd.C_drewN ?_ _) | (with_reducible refine Kd.C_drew ?_)))
                   (case side4 => exact (Kd.V_reads' HO_273001.out).2.1)
                   rintro e w' ⟨rfl, ⟨nd, rfl⟩⟩
                   refine ⟨_, rfl, ?_⟩
                   refine hK.out _ _ ⟨cz0 BK272.out, cz1 BK272.out, cz2 BK272.out, cz3 BK272.out⟩ (fun hHeld => ?_)
                   clear hK K
                   refine norm_ (a' := ?_) ?_ ?_
                   rotate_left
                   ·show Act.put _ (some 144) _ = _
                    exact pA
                   refine pure_ (i := 6) (N := some 13) (v := ?_) (a' := ?_) (bm 7 127) rfl rfl (by kernel_rfl) (fun _ _ _ h => h) (Or.inl ⟨by kernel_rfl, ?_⟩) ?_ ?_
                   rotate_left
                   ·intro w'
                    go_simp
                    with_reducible rfl
                   rotate_left
                   ·exact pA
                   refine done_ (by kernel_rfl) ?_
                   have H := HH_.out
                   clear HH_
                   by_cases c130 : x12_83 = true
                   ·subst c130
                    rw [if_pos rfl] at H
                    by_cases c131 : x11_83 = true
                    ·subst c131
                     rw [if_pos rfl] at H
                     by_cases c132 : t328 > 0
                     ·rw [if_pos c132] at H
                      have c132b0 : decide (0 < t328) = true := decide_eq_true c132
                      clear c132
                      by_cases c133 : x8_4.length < 140737488355328
                      ·rw [if_pos c133] at H
                       have LMc133 := am c133
                       clear c133
                       obtain ⟨y329, hy329⟩ : ∃ y_ : List Int, y_ = (x8_4 ++ [(48 + ((x9_5 + 1) % 256)) % 256]) := ⟨_, rfl⟩
                       replace H : ((dec_tidy.f kj108 y329 x7_3).bind fun bt332 => (some (bt332.1, bt332.2))) = some (r1, r2) := by first | (rw [hy329]; with_reducible exact H) | (have H2_ := (Option.bind_some _ _).symm.trans H; rw [hy329]; with_reducible exact H2_) | (have H2_ := (Option.bind_some _ _).symm.trans H; with_reducible exact H2_) | with_reducible exact H | (rw [hy329]; exact H) | exact H
                       have Ny329 := am hy329
                       clear hy329
                       replace H := Option.bind_eq_some_iff.mp H
                       obtain ⟨⟨t332, t333⟩, A1340, H⟩ := H
                       try dsimp only at H
                       have A134 := am A1340
                       clear A1340
                       simp only [Option.some.injEq, Prod.mk.injEq] at H
                       obtain ⟨rfl, rfl⟩ := H
                       obtain ⟨jn_, hjn_⟩ : ∃ z_ : Int, (x9_5 + 1) % 256 = z_ := ⟨_, rfl⟩
                       have nyb_ := Ny329.out
                       rw [hjn_] at nyb_
                       clear Ny329
                       have Ny329 := am nyb_
                       clear nyb_
                       try go_wp2_with (first | ((with_reducible refine gate_builtin (b := .append) (xs := #[.tmp 165, .tmp 168]) rfl ?_); at_builtin; refine Kd.R_append (Kd.int .u8) (w0 := w) w.heap.size rfl (.tmp 165) (.tmp 168) 35 5 (.int .u8 0) 1 rfl Tryd.underlying35 info5 rfl (by decide) (by omega) u8 x8_4 ((48 + jn_) % 256) [.int .u8 ((48 + jn_) % 256)] (fun _ => True) (fun _ => False) rfl rfl ?aP (fun _ hk => hk.elim) ?aF ?aO ?aB ?aS ?aL ?_; (case aP => exact rfl); (case aB => exact pB); (case aF => exact (fun _ _ => trivial)); (case aO => exact (pR HO_8.out)); (case aS => exact (below_size pB)); (case aL => have := LMc133.out; omega); intro v330 w138 ho hb hg hat; rw [← Ny329.out] at ho; replace HO_273000 := am (Kd.V_afterv (ok := (fun k_ => some k_ ≠ (.slice Ao137 t325.length co137 : Value).ownBlock ∧ k_ ≠ gb272 ∧ k_ ≠ gb273)) (by (with_reducible repeat (first | apply Kd.V_alloc | apply Kd.V_drewN | apply Kd.V_drew)); exact Kd.V_mono HO_273000.out (fun _ hk => ⟨⟨hk.2, ⟨hk.1.2.1, hk.1.2.2⟩⟩, hk.1.1⟩)) hg hat); replace HO_273001 := am (Kd.V_afterv (ok := (fun k_ => some k_ ≠ (.slice Ao137 t325.length co137 : Value).ownBlock ∧ k_ ≠ gb272 ∧ k_ ≠ gb273)) (by (with_reducible repeat (first | apply Kd.V_alloc | apply Kd.V_drewN | apply Kd.V_drew)); exact Kd.V_mono HO_273001.out (fun _ hk => ⟨⟨hk.2, ⟨hk.1.2.1, hk.1.2.2⟩⟩, hk.1.1⟩)) hg hat); replace HO_273002 := am (Kd.V_afterv (ok := (fun k_ => some k_ ≠ (.slice Ao137 t325.length co137 : Value).ownBlock ∧ k_ ≠ gb272 ∧ k_ ≠ gb273)) (by (with_reducible repeat (first | apply Kd.V_alloc | apply Kd.V_drewN | apply Kd.V_drew)); exact Kd.V_mono HO_273002.out (fun _ hk => ⟨⟨hk.2, ⟨hk.1.2.1, hk.1.2.2⟩⟩, hk.1.1⟩)) hg hat); replace HO_273003 := am (Kd.V_afterv (ok := (fun k_ => some k_ ≠ (.slice Ao137 t325.length co137 : Value).ownBlock ∧ k_ ≠ gb272 ∧ k_ ≠ gb273)) (by (with_reducible repeat (first | apply Kd.V_alloc | apply Kd.V_drewN | apply Kd.V_drew)); exact Kd.V_mono HO_273003.out (fun _ hk => ⟨⟨hk.2, ⟨hk.1.2.1, hk.1.2.2⟩⟩, hk.1.1⟩)) hg hat); replace BK272 := am (blk_grown (g := gb272) (o := .cells #[.slice Ao87 x273000_5.length co87, .slice Ao58 x273001_2.length co58, .slice Ao88 x273002_4.length co88, u273003] 66 (0, 0)) (pK BK272.out) hg (pX HO_8.out BK272.out)); replace BK273 := am (blk_grown (g := gb273) (o := .cells #[.bool ((Go.bits .and .u64 a0 1) == 0)] 4 (0, 0)) (pK BK273.out) hg (pX HO_8.out BK273.out)); replace HO327 := am (Kd.R_over' (pR HO327.out) (Kd.R_typed (pR HO_8.out)) (by decide) hg); replace HB := am (hb); have HO331 := am (ho); clear HO_8; clear ho hb hg hat; obtain ⟨Ao139, co139, eo139⟩ := Kd.R_slice HO331.out; subst eo139) | ((with_reducible refine gate_callee (f := 41) rfl ?_); refine goesL_ (some 171) rfl rfl Tryd.func41 (by kernel_rfl) rfl #[.slice Ao139 y329.length co139, .int .i64 x7_3] rfl pM ?_; (with_reducible refine (dec_tidy.calls kj108 (fun k_ => some k_ = (.slice Ao139 y329.length co139 : Value).ownBlock) (.slice Ao139 y329.length co139) y329 x7_3 t332 t333 w _ ?side1 ?side2 A134.out).mono ?_); (case side1 => repeat (first | (with_reducible first | exact HB.out | apply below_alloc | apply pw_below_drewN | apply below_drew1 | refine below_set ?_ GE272.out | refine below_set ?_ GE273.out) | exact HB.out)); (case side2 => exact Kd.R_tight rfl HO331.out); rintro e w140 ⟨rfl, hb, hkp⟩; refine ⟨_, rfl, ?_⟩; replace HO_273000 := am (Kd.V_mono (ok' := fun k_ => some k_ ≠ (.slice Ao137 t325.length co137 : Value).ownBlock ∧ k_ ≠ gb272 ∧ k_ ≠ gb273) (Kd.V_keptB (HO_273000.out) hkp (fun k_ hk_ hs_ => (hk_.2) hs_)) (fun k_ hk_ => ⟨hk_.1.1.1, hk_.1.1.2.1, hk_.1.1.2.2⟩)); replace HO_273001 := am (Kd.V_mono (ok' := fun k_ => some k_ ≠ (.slice Ao137 t325.length co137 : Value).ownBlock ∧ k_ ≠ gb272 ∧ k_ ≠ gb273) (Kd.V_keptB (HO_273001.out) hkp (fun k_ hk_ hs_ => (hk_.2) hs_)) (fun k_ hk_ => ⟨hk_.1.1.1, hk_.1.1.2.1, hk_.1.1.2.2⟩)); replace HO_273002 := am (Kd.V_mono (ok' := fun k_ => some k_ ≠ (.slice Ao137 t325.length co137 : Value).ownBlock ∧ k_ ≠ gb272 ∧ k_ ≠ gb273) (Kd.V_keptB (HO_273002.out) hkp (fun k_ hk_ hs_ => (hk_.2) hs_)) (fun k_ hk_ => ⟨hk_.1.1.1, hk_.1.1.2.1, hk_.1.1.2.2⟩)); replace HO_273003 := am (Kd.V_mono (ok' := fun k_ => some k_ ≠ (.slice Ao137 t325.length co137 : Value).ownBlock ∧ k_ ≠ gb272 ∧ k_ ≠ gb273) (Kd.V_keptB (HO_273003.out) hkp (fun k_ hk_ hs_ => (hk_.2) hs_)) (fun k_ hk_ => ⟨hk_.1.1.1, hk_.1.1.2.1, hk_.1.1.2.2⟩)); replace BK272 := am (blk_kept (pK BK272.out) hkp (fun hs_ => (fun e_ => (pX HO331.out BK272.out) e_) hs_)); replace BK273 := am (blk_kept (pK BK273.out) hkp (fun hs_ => (fun e_ => (pX HO331.out BK273.out) e_) hs_)); replace HO327 := am (Kd.R_mono (ok' := fun k_ => True) (Kd.R_keptB ((Kd.R_apart' HO327.out (Kd.R_typed HO331.out) (by decide))) hkp (fun k_ hk_ hs_ => (hk_.2) hs_)) (fun k_ hk_ => trivial)); replace HB := am (hb); clear HO331; (try clear hb); (try clear hkp)))
                       go_ret2
                       exact ⟨pE, pB⟩
                      ·rw [if_neg c133] at H
                       exact absurd H (by simp)
                     ·rw [if_neg c132] at H
                      have c132b0 : decide (0 < t328) = false := decide_eq_false c132
                      clear c132
                      by_cases c141 : t328 = 0
                      ·rw [if_pos c141] at H
                       have c141b0 : (t328 == 0) = true := beq_iff_eq.mpr c141
                       have c141b1 : (t328 != 0) = false := bne_eq_false_iff_eq.mpr c141
                       clear c141
                       by_cases c142 : (Int.tmod x9_5 2) = 1
                       ·rw [if_pos c142] at H
                        have c142b0 : ((Int.tmod x9_5 2) == 1) = true := beq_iff_eq.mpr c142
                        have c142b1 : ((Int.tmod x9_5 2) != 1) = false := bne_eq_false_iff_eq.mpr c142
                        clear c142
                        by_cases c143 : x8_4.length < 140737488355328
                        ·rw [if_pos c143] at H
                         have LMc143 := am c143
                         clear c143
                         obtain ⟨y334, hy334⟩ : ∃ y_ : List Int, y_ = (x8_4 ++ [(48 + ((x9_5 + 1) % 256)) % 256]) := ⟨_, rfl⟩
                         replace H : ((dec_tidy.f kj108 y334 x7_3).bind fun bt337 => (some (bt337.1, bt337.2))) = some (r1, r2) := by first | (rw [hy334]; with_reducible exact H) | (have H2_ := (Option.bind_some _ _).symm.trans H; rw [hy334]; with_reducible exact H2_) | (have H2_ := (Option.bind_some _ _).symm.trans H; with_reducible exact H2_) | with_reducible exact H | (rw [hy334]; exact H) | exact H
                         have Ny334 := am hy334
                         clear hy334
                         replace H := Option.bind_eq_some_iff.mp H
                         obtain ⟨⟨t337, t338⟩, A1440, H⟩ := H
                         try dsimp only at H
                         have A144 := am A1440
                         clear A1440
                         simp only [Option.some.injEq, Prod.mk.injEq] at H
                         obtain ⟨rfl, rfl⟩ := H
                         obtain ⟨jn_, hjn_⟩ : ∃ z_ : Int, (x9_5 + 1) % 256 = z_ := ⟨_, rfl⟩
                         have nyb_ := Ny334.out
                         rw [hjn_] at nyb_
                         clear Ny334
                         have Ny334 := am nyb_
                         clear nyb_
                         try go_wp2_with (first | ((with_reducible refine gate_builtin (b := .append) (xs := #[.tmp 165, .tmp 168]) rfl ?_); at_builtin; refine Kd.R_append (Kd.int .u8) (w0 := w) w.heap.size rfl (.tmp 165) (.tmp 168) 35 5 (.int .u8 0) 1 rfl Tryd.underlying35 info5 rfl (by decide) (by omega) u8 x8_4 ((48 + jn_) % 256) [.int .u8 ((48 + jn_) % 256)] (fun _ => True) (fun _ => False) rfl rfl ?aP (fun _ hk => hk.elim) ?aF ?aO ?aB ?aS ?aL ?_; (case aP => exact rfl); (case aB => exact pB); (case aF => exact (fun _ _ => trivial)); (case aO => exact (pR HO_8.out)); (case aS => exact (below_size pB)); (case aL => have := LMc143.out; omega); intro v335 w148 ho hb hg hat; rw [← Ny334.out] at ho; replace HO_273000 := am (Kd.V_afterv (ok := (fun k_ => some k_ ≠ (.slice Ao137 t325.length co137 : Value).ownBlock ∧ k_ ≠ gb272 ∧ k_ ≠ gb273)) (by (with_reducible repeat (first | apply Kd.V_alloc | apply Kd.V_drewN | apply Kd.V_drew)); exact Kd.V_mono HO_273000.out (fun _ hk => ⟨⟨hk.2, ⟨hk.1.2.1, hk.1.2.2⟩⟩, hk.1.1⟩)) hg hat); replace HO_273001 := am (Kd.V_afterv (ok := (fun k_ => some k_ ≠ (.slice Ao137 t325.length co137 : Value).ownBlock ∧ k_ ≠ gb272 ∧ k_ ≠ gb273)) (by (with_reducible repeat (first | apply Kd.V_alloc | apply Kd.V_drewN | apply Kd.V_drew)); exact Kd.V_mono HO_273001.out (fun _ hk => ⟨⟨hk.2, ⟨hk.1.2.1, hk.1.2.2⟩⟩, hk.1.1⟩)) hg hat); replace HO_273002 := am (Kd.V_afterv (ok := (fun k_ => some k_ ≠ (.slice Ao137 t325.length co137 : Value).ownBlock ∧ k_ ≠ gb272 ∧ k_ ≠ gb273)) (by (with_reducible repeat (first | apply Kd.V_alloc | apply Kd.V_drewN | apply Kd.V_drew)); exact Kd.V_mono HO_273002.out (fun _ hk => ⟨⟨hk.2, ⟨hk.1.2.1, hk.1.2.2⟩⟩, hk.1.1⟩)) hg hat); replace HO_273003 := am (Kd.V_afterv (ok := (fun k_ => some k_ ≠ (.slice Ao137 t325.length co137 : Value).ownBlock ∧ k_ ≠ gb272 ∧ k_ ≠ gb273)) (by (with_reducible repeat (first | apply Kd.V_alloc | apply Kd.V_drewN | apply Kd.V_drew)); exact Kd.V_mono HO_273003.out (fun _ hk => ⟨⟨hk.2, ⟨hk.1.2.1, hk.1.2.2⟩⟩, hk.1.1⟩)) hg hat); replace BK272 := am (blk_grown (g := gb272) (o := .cells #[.slice Ao87 x273000_5.length co87, .slice Ao58 x273001_2.length co58, .slice Ao88 x273002_4.length co88, u273003] 66 (0, 0)) (pK BK272.out) hg (pX HO_8.out BK272.out)); replace BK273 := am (blk_grown (g := gb273) (o := .cells #[.bool ((Go.bits .and .u64 a0 1) == 0)] 4 (0, 0)) (pK BK273.out) hg (pX HO_8.out BK273.out)); replace HO327 := am (Kd.R_over' (pR HO327.out) (Kd.R_typed (pR HO_8.out)) (by decide) hg); replace HB := am (hb); have HO336 := am (ho); clear HO_8; clear ho hb hg hat; obtain ⟨Ao149, co149, eo149⟩ := Kd.R_slice HO336.out; subst eo149) | ((with_reducible refine gate_callee (f := 41) rfl ?_); refine goesL_ (some 171) rfl rfl Tryd.func41 (by kernel_rfl) rfl #[.slice Ao149 y334.length co149, .int .i64 x7_3] rfl pM ?_; (with_reducible refine (dec_tidy.calls kj108 (fun k_ => some k_ = (.slice Ao149 y334.length co149 : Value).ownBlock) (.slice Ao149 y334.length co149) y334 x7_3 t337 t338 w _ ?side1 ?side2 A144.out).mono ?_); (case side1 => repeat (first | (with_reducible first | exact HB.out | apply below_alloc | apply pw_below_drewN | apply below_drew1 | refine below_set ?_ GE272.out | refine below_set ?_ GE273.out) | exact HB.out)); (case side2 => exact Kd.R_tight rfl HO336.out); rintro e w150 ⟨rfl, hb, hkp⟩; refine ⟨_, rfl, ?_⟩; replace HO_273000 := am (Kd.V_mono (ok' := fun k_ => some k_ ≠ (.slice Ao137 t325.length co137 : Value).ownBlock ∧ k_ ≠ gb272 ∧ k_ ≠ gb273) (Kd.V_keptB (HO_273000.out) hkp (fun k_ hk_ hs_ => (hk_.2) hs_)) (fun k_ hk_ => ⟨hk_.1.1.1, hk_.1.1.2.1, hk_.1.1.2.2⟩)); replace HO_273001 := am (Kd.V_mono (ok' := fun k_ => some k_ ≠ (.slice Ao137 t325.length co137 : Value).ownBlock ∧ k_ ≠ gb272 ∧ k_ ≠ gb273) (Kd.V_keptB (HO_273001.out) hkp (fun k_ hk_ hs_ => (hk_.2) hs_)) (fun k_ hk_ => ⟨hk_.1.1.1, hk_.1.1.2.1, hk_.1.1.2.2⟩)); replace HO_273002 := am (Kd.V_mono (ok' := fun k_ => some k_ ≠ (.slice Ao137 t325.length co137 : Value).ownBlock ∧ k_ ≠ gb272 ∧ k_ ≠ gb273) (Kd.V_keptB (HO_273002.out) hkp (fun k_ hk_ hs_ => (hk_.2) hs_)) (fun k_ hk_ => ⟨hk_.1.1.1, hk_.1.1.2.1, hk_.1.1.2.2⟩)); replace HO_273003 := am (Kd.V_mono (ok' := fun k_ => some k_ ≠ (.slice Ao137 t325.length co137 : Value).ownBlock ∧ k_ ≠ gb272 ∧ k_ ≠ gb273) (Kd.V_keptB (HO_273003.out) hkp (fun k_ hk_ hs_ => (hk_.2) hs_)) (fun k_ hk_ => ⟨hk_.1.1.1, hk_.1.1.2.1, hk_.1.1.2.2⟩)); replace BK272 := am (blk_kept (pK BK272.out) hkp (fun hs_ => (fun e_ => (pX HO336.out BK272.out) e_) hs_)); replace BK273 := am (blk_kept (pK BK273.out) hkp (fun hs_ => (fun e_ => (pX HO336.out BK273.out) e_) hs_)); replace HO327 := am (Kd.R_mono (ok' := fun k_ => True) (Kd.R_keptB ((Kd.R_apart' HO327.out (Kd.R_typed HO336.out) (by decide))) hkp (fun k_ hk_ hs_ => (hk_.2) hs_)) (fun k_ hk_ => trivial)); replace HB := am (hb); clear HO336; (try clear hb); (try clear hkp)))
                         go_ret2
                         exact ⟨pE, pB⟩
                        ·rw [if_neg c143] at H
                         exact absurd H (by simp)
                       ·rw [if_neg c142] at H
                        have c142b0 : ((Int.tmod x9_5 2) == 1) = false := beq_eq_false_iff_ne.mpr c142
                        have c142b1 : ((Int.tmod x9_5 2) != 1) = true := bne_iff_ne.mpr c142
                        by_cases c151 : x8_4.length < 140737488355328
                        ·rw [if_pos c151] at H
                         have LMc151 := am c151
                         clear c151
                         obtain ⟨y339, hy339⟩ : ∃ y_ : List Int, y_ = (x8_4 ++ [(48 + x9_5) % 256]) := ⟨_, rfl⟩
                         replace H : ((dec_tidy.f kj108 y339 x7_3).bind fun bt342 => (some (bt342.1, bt342.2))) = some (r1, r2) := by first | (rw [hy339]; with_reducible exact H) | (have H2_ := (Option.bind_some _ _).symm.trans H; rw [hy339]; with_reducible exact H2_) | (have H2_ := (Option.bind_some _ _).symm.trans H; with_reducible exact H2_) | with_reducible exact H | (rw [hy339]; exact H) | exact H
                         have Ny339 := am hy339
                         clear hy339
                         replace H := Option.bind_eq_some_iff.mp H
                         obtain ⟨⟨t342, t343⟩, A1520, H⟩ := H
                         try dsimp only at H
                         have A152 := am A1520
                         clear A1520
                         simp only [Option.some.injEq, Prod.mk.injEq] at H
                         obtain ⟨rfl, rfl⟩ := H
                         try go_wp2_with (first | ((with_reducible refine gate_builtin (b := .append) (xs := #[.tmp 165, .tmp 168]) rfl ?_); at_builtin; refine Kd.R_append (Kd.int .u8) (w0 := w) w.heap.size rfl (.tmp 165) (.tmp 168) 35 5 (.int .u8 0) 1 rfl Tryd.underlying35 info5 rfl (by decide) (by omega) u8 x8_4 ((48 + x9_5) % 256) [.int .u8 ((48 + x9_5) % 256)] (fun _ => True) (fun _ => False) rfl rfl ?aP (fun _ hk => hk.elim) ?aF ?aO ?aB ?aS ?aL ?_; (case aP => exact rfl); (case aB => exact pB); (case aF => exact (fun _ _ => trivial)); (case aO => exact (pR HO_8.out)); (case aS => exact (below_size pB)); (case aL => have := LMc151.out; omega); intro v340 w156 ho hb hg hat; rw [← Ny339.out] at ho; replace HO_273000 := am (Kd.V_afterv (ok := (fun k_ => some k_ ≠ (.slice Ao137 t325.length co137 : Value).ownBlock ∧ k_ ≠ gb272 ∧ k_ ≠ gb273)) (by (with_reducible repeat (first | apply Kd.V_alloc | apply Kd.V_drewN | apply Kd.V_drew)); exact Kd.V_mono HO_273000.out (fun _ hk => ⟨⟨hk.2, ⟨hk.1.2.1, hk.1.2.2⟩⟩, hk.1.1⟩)) hg hat); replace HO_273001 := am (Kd.V_afterv (ok := (fun k_ => some k_ ≠ (.slice Ao137 t325.length co137 : Value).ownBlock ∧ k_ ≠ gb272 ∧ k_ ≠ gb273)) (by (with_reducible repeat (first | apply Kd.V_alloc | apply Kd.V_drewN | apply Kd.V_drew)); exact Kd.V_mono HO_273001.out (fun _ hk => ⟨⟨hk.2, ⟨hk.1.2.1, hk.1.2.2⟩⟩, hk.1.1⟩)) hg hat); replace HO_273002 := am (Kd.V_afterv (ok := (fun k_ => some k_ ≠ (.slice Ao137 t325.length co137 : Value).ownBlock ∧ k_ ≠ gb272 ∧ k_ ≠ gb273)) (by (with_reducible repeat (first | apply Kd.V_alloc | apply Kd.V_drewN | apply Kd.V_drew)); exact Kd.V_mono HO_273002.out (fun _ hk => ⟨⟨hk.2, ⟨hk.1.2.1, hk.1.2.2⟩⟩, hk.1.1⟩)) hg hat); replace HO_273003 := am (Kd.V_afterv (ok := (fun k_ => some k_ ≠ (.slice Ao137 t325.length co137 : Value).ownBlock ∧ k_ ≠ gb272 ∧ k_ ≠ gb273)) (by (with_reducible repeat (first | apply Kd.V_alloc | apply Kd.V_drewN | apply Kd.V_drew)); exact Kd.V_mono HO_273003.out (fun _ hk => ⟨⟨hk.2, ⟨hk.1.2.1, hk.1.2.2⟩⟩, hk.1.1⟩)) hg hat); replace BK272 := am (blk_grown (g := gb272) (o := .cells #[.slice Ao87 x273000_5.length co87, .slice Ao58 x273001_2.length co58, .slice Ao88 x273002_4.length co88, u273003] 66 (0, 0)) (pK BK272.out) hg (pX HO_8.out BK272.out)); replace BK273 := am (blk_grown (g := gb273) (o := .cells #[.bool ((Go.bits .and .u64 a0 1) == 0)] 4 (0, 0)) (pK BK273.out) hg (pX HO_8.out BK273.out)); replace HO327 := am (Kd.R_over' (pR HO327.out) (Kd.R_typed (pR HO_8.out)) (by decide) hg); replace HB := am (hb); have HO341 := am (ho); clear HO_8; clear ho hb hg hat; obtain ⟨Ao157, co157, eo157⟩ := Kd.R_slice HO341.out; subst eo157) | ((with_reducible refine gate_callee (f := 41) rfl ?_); refine goesL_ (some 171) rfl rfl Tryd.func41 (by kernel_rfl) rfl #[.slice Ao157 y339.length co157, .int .i64 x7_3] rfl pM ?_; (with_reducible refine (dec_tidy.calls kj108 (fun k_ => some k_ = (.slice Ao157 y339.length co157 : Value).ownBlock) (.slice Ao157 y339.length co157) y339 x7_3 t342 t343 w _ ?side1 ?side2 A152.out).mono ?_); (case side1 => repeat (first | (with_reducible first | exact HB.out | apply below_alloc | apply pw_below_drewN | apply below_drew1 | refine below_set ?_ GE272.out | refine below_set ?_ GE273.out) | exact HB.out)); (case side2 => exact Kd.R_tight rfl HO341.out); rintro e w158 ⟨rfl, hb, hkp⟩; refine ⟨_, rfl, ?_⟩; replace HO_273000 := am (Kd.V_mono (ok' := fun k_ => some k_ ≠ (.slice Ao137 t325.length co137 : Value).ownBlock ∧ k_ ≠ gb272 ∧ k_ ≠ gb273) (Kd.V_keptB (HO_273000.out) hkp (fun k_ hk_ hs_ => (hk_.2) hs_)) (fun k_ hk_ => ⟨hk_.1.1.1, hk_.1.1.2.1, hk_.1.1.2.2⟩)); replace HO_273001 := am (Kd.V_mono (ok' := fun k_ => some k_ ≠ (.slice Ao137 t325.length co137 : Value).ownBlock ∧ k_ ≠ gb272 ∧ k_ ≠ gb273) (Kd.V_keptB (HO_273001.out) hkp (fun k_ hk_ hs_ => (hk_.2) hs_)) (fun k_ hk_ => ⟨hk_.1.1.1, hk_.1.1.2.1, hk_.1.1.2.2⟩)); replace HO_273002 := am (Kd.V_mono (ok' := fun k_ => some k_ ≠ (.slice Ao137 t325.length co137 : Value).ownBlock ∧ k_ ≠ gb272 ∧ k_ ≠ gb273) (Kd.V_keptB (HO_273002.out) hkp (fun k_ hk_ hs_ => (hk_.2) hs_)) (fun k_ hk_ => ⟨hk_.1.1.1, hk_.1.1.2.1, hk_.1.1.2.2⟩)); replace HO_273003 := am (Kd.V_mono (ok' := fun k_ => some k_ ≠ (.slice Ao137 t325.length co137 : Value).ownBlock ∧ k_ ≠ gb272 ∧ k_ ≠ gb273) (Kd.V_keptB (HO_273003.out) hkp (fun k_ hk_ hs_ => (hk_.2) hs_)) (fun k_ hk_ => ⟨hk_.1.1.1, hk_.1.1.2.1, hk_.1.1.2.2⟩)); replace BK272 := am (blk_kept (pK BK272.out) hkp (fun hs_ => (fun e_ => (pX HO341.out BK272.out) e_) hs_)); replace BK273 := am (blk_kept (pK BK273.out) hkp (fun hs_ => (fun e_ => (pX HO341.out BK273.out) e_) hs_)); replace HO327 := am (Kd.R_mono (ok' := fun k_ => True) (Kd.R_keptB ((Kd.R_apart' HO327.out (Kd.R_typed HO341.out) (by decide))) hkp (fun k_ hk_ hs_ => (hk_.2) hs_)) (fun k_ hk_ => trivial)); replace HB := am (hb); clear HO341; (try clear hb); (try clear hkp)))
                         go_ret2
                         exact ⟨pE, pB⟩
                        ·rw [if_neg c151] at H
                         exact absurd H (by simp)
                      ·rw [if_neg c141] at H
                       have c141b0 : (t328 == 0) = false := beq_eq_false_iff_ne.mpr c141
                       have c141b1 : (t328 != 0) = true := bne_iff_ne.mpr c141
                       by_cases c159 : x8_4.length < 140737488355328
                       ·rw [if_pos c159] at H
                        have LMc159 := am c159
                        clear c159
                        obtain ⟨y344, hy344⟩ : ∃ y_ : List Int, y_ = (x8_4 ++ [(48 + x9_5) % 256]) := ⟨_, rfl⟩
                        replace H : ((dec_tidy.f kj108 y344 x7_3).bind fun bt347 => (some (bt347.1, bt347.2))) = some (r1, r2) := by first | (rw [hy344]; with_reducible exact H) | (have H2_ := (Option.bind_some _ _).symm.trans H; rw [hy344]; with_reducible exact H2_) | (have H2_ := (Option.bind_some _ _).symm.trans H; with_reducible exact H2_) | with_reducible exact H | (rw [hy344]; exact H) | exact H
                        have Ny344 := am hy344
                        clear hy344
                        replace H := Option.bind_eq_some_iff.mp H
                        obtain ⟨⟨t347, t348⟩, A1600, H⟩ := H
                        try dsimp only at H
                        have A160 := am A1600
                        clear A1600
                        simp only [Option.some.injEq, Prod.mk.injEq] at H
                        obtain ⟨rfl, rfl⟩ := H
                        try go_wp2_with (first | ((with_reducible refine gate_builtin (b := .append) (xs := #[.tmp 165, .tmp 168]) rfl ?_); at_builtin; refine Kd.R_append (Kd.int .u8) (w0 := w) w.heap.size rfl (.tmp 165) (.tmp 168) 35 5 (.int .u8 0) 1 rfl Tryd.underlying35 info5 rfl (by decide) (by omega) u8 x8_4 ((48 + x9_5) % 256) [.int .u8 ((48 + x9_5) % 256)] (fun _ => True) (fun _ => False) rfl rfl ?aP (fun _ hk => hk.elim) ?aF ?aO ?aB ?aS ?aL ?_; (case aP => exact rfl); (case aB => exact pB); (case aF => exact (fun _ _ => trivial)); (case aO => exact (pR HO_8.out)); (case aS => exact (below_size pB)); (case aL => have := LMc159.out; omega); intro v345 w164 ho hb hg hat; rw [← Ny344.out] at ho; replace HO_273000 := am (Kd.V_afterv (ok := (fun k_ => some k_ ≠ (.slice Ao137 t325.length co137 : Value).ownBlock ∧ k_ ≠ gb272 ∧ k_ ≠ gb273)) (by (with_reducible repeat (first | apply Kd.V_alloc | apply Kd.V_drewN | apply Kd.V_drew)); exact Kd.V_mono HO_273000.out (fun _ hk => ⟨⟨hk.2, ⟨hk.1.2.1, hk.1.2.2⟩⟩, hk.1.1⟩)) hg hat); replace HO_273001 := am (Kd.V_afterv (ok := (fun k_ => some k_ ≠ (.slice Ao137 t325.length co137 : Value).ownBlock ∧ k_ ≠ gb272 ∧ k_ ≠ gb273)) (by (with_reducible repeat (first | apply Kd.V_alloc | apply Kd.V_drewN | apply Kd.V_drew)); exact Kd.V_mono HO_273001.out (fun _ hk => ⟨⟨hk.2, ⟨hk.1.2.1, hk.1.2.2⟩⟩, hk.1.1⟩)) hg hat); replace HO_273002 := am (Kd.V_afterv (ok := (fun k_ => some k_ ≠ (.slice Ao137 t325.length co137 : Value).ownBlock ∧ k_ ≠ gb272 ∧ k_ ≠ gb273)) (by (with_reducible repeat (first | apply Kd.V_alloc | apply Kd.V_drewN | apply Kd.V_drew)); exact Kd.V_mono HO_273002.out (fun _ hk => ⟨⟨hk.2, ⟨hk.1.2.1, hk.1.2.2⟩⟩, hk.1.1⟩)) hg hat); replace HO_273003 := am (Kd.V_afterv (ok := (fun k_ => some k_ ≠ (.slice Ao137 t325.length co137 : Value).ownBlock ∧ k_ ≠ gb272 ∧ k_ ≠ gb273)) (by (with_reducible repeat (first | apply Kd.V_alloc | apply Kd.V_drewN | apply Kd.V_drew)); exact Kd.V_mono HO_273003.out (fun _ hk => ⟨⟨hk.2, ⟨hk.1.2.1, hk.1.2.2⟩⟩, hk.1.1⟩)) hg hat); replace BK272 := am (blk_grown (g := gb272) (o := .cells #[.slice Ao87 x273000_5.length co87, .slice Ao58 x273001_2.length co58, .slice Ao88 x273002_4.length co88, u273003] 66 (0, 0)) (pK BK272.out) hg (pX HO_8.out BK272.out)); replace BK273 := am (blk_grown (g := gb273) (o := .cells #[.bool ((Go.bits .and .u64 a0 1) == 0)] 4 (0, 0)) (pK BK273.out) hg (pX HO_8.out BK273.out)); replace HO327 := am (Kd.R_over' (pR HO327.out) (Kd.R_typed (pR HO_8.out)) (by decide) hg); replace HB := am (hb); have HO346 := am (ho); clear HO_8; clear ho hb hg hat; obtain ⟨Ao165, co165, eo165⟩ := Kd.R_slice HO346.out; subst eo165) | ((with_reducible refine gate_callee (f := 41) rfl ?_); refine goesL_ (some 171) rfl rfl Tryd.func41 (by kernel_rfl) rfl #[.slice Ao165 y344.length co165, .int .i64 x7_3] rfl pM ?_; (with_reducible refine (dec_tidy.calls kj108 (fun k_ => some k_ = (.slice Ao165 y344.length co165 : Value).ownBlock) (.slice Ao165 y344.length co165) y344 x7_3 t347 t348 w _ ?side1 ?side2 A160.out).mono ?_); (case side1 => repeat (first | (with_reducible first | exact HB.out | apply below_alloc | apply pw_below_drewN | apply below_drew1 | refine below_set ?_ GE272.out | refine below_set ?_ GE273.out) | exact HB.out)); (case side2 => exact Kd.R_tight rfl HO346.out); rintro e w166 ⟨rfl, hb, hkp⟩; refine ⟨_, rfl, ?_⟩; replace HO_273000 := am (Kd.V_mono (ok' := fun k_ => some k_ ≠ (.slice Ao137 t325.length co137 : Value).ownBlock ∧ k_ ≠ gb272 ∧ k_ ≠ gb273) (Kd.V_keptB (HO_273000.out) hkp (fun k_ hk_ hs_ => (hk_.2) hs_)) (fun k_ hk_ => ⟨hk_.1.1.1, hk_.1.1.2.1, hk_.1.1.2.2⟩)); replace HO_273001 := am (Kd.V_mono (ok' := fun k_ => some k_ ≠ (.slice Ao137 t325.length co137 : Value).ownBlock ∧ k_ ≠ gb272 ∧ k_ ≠ gb273) (Kd.V_keptB (HO_273001.out) hkp (fun k_ hk_ hs_ => (hk_.2) hs_)) (fun k_ hk_ => ⟨hk_.1.1.1, hk_.1.1.2.1, hk_.1.1.2.2⟩)); replace HO_273002 := am (Kd.V_mono (ok' := fun k_ => some k_ ≠ (.slice Ao137 t325.length co137 : Value).ownBlock ∧ k_ ≠ gb272 ∧ k_ ≠ gb273) (Kd.V_keptB (HO_273002.out) hkp (fun k_ hk_ hs_ => (hk_.2) hs_)) (fun k_ hk_ => ⟨hk_.1.1.1, hk_.1.1.2.1, hk_.1.1.2.2⟩)); replace HO_273003 := am (Kd.V_mono (ok' := fun k_ => some k_ ≠ (.slice Ao137 t325.length co137 : Value).ownBlock ∧ k_ ≠ gb272 ∧ k_ ≠ gb273) (Kd.V_keptB (HO_273003.out) hkp (fun k_ hk_ hs_ => (hk_.2) hs_)) (fun k_ hk_ => ⟨hk_.1.1.1, hk_.1.1.2.1, hk_.1.1.2.2⟩)); replace BK272 := am (blk_kept (pK BK272.out) hkp (fun hs_ => (fun e_ => (pX HO346.out BK272.out) e_) hs_)); replace BK273 := am (blk_kept (pK BK273.out) hkp (fun hs_ => (fun e_ => (pX HO346.out BK273.out) e_) hs_)); replace HO327 := am (Kd.R_mono (ok' := fun k_ => True) (Kd.R_keptB ((Kd.R_apart' HO327.out (Kd.R_typed HO346.out) (by decide))) hkp (fun k_ hk_ hs_ => (hk_.2) hs_)) (fun k_ hk_ => trivial)); replace HB := am (hb); clear HO346; (try clear hb); (try clear hkp)))
                        go_ret2
                        exact ⟨pE, pB⟩
                       ·rw [if_neg c159] at H
                        exact absurd H (by simp)
                    ·replace c131 := Bool.eq_false_iff.mpr c131
                     subst c131
                     rw [if_neg (show ¬ (false = true) by decide)] at H
                     by_cases c167 : x8_4.length < 140737488355328
                     ·rw [if_pos c167] at H
                      have LMc167 := am c167
                      clear c167
                      obtain ⟨y349, hy349⟩ : ∃ y_ : List Int, y_ = (x8_4 ++ [(48 + ((x9_5 + 1) % 256)) % 256]) := ⟨_, rfl⟩
                      replace H : ((dec_tidy.f kj108 y349 x7_3).bind fun bt352 => (some (bt352.1, bt352.2))) = some (r1, r2) := by first | (rw [hy349]; with_reducible exact H) | (have H2_ := (Option.bind_some _ _).symm.trans H; rw [hy349]; with_reducible exact H2_) | (have H2_ := (Option.bind_some _ _).symm.trans H; with_reducible exact H2_) | with_reducible exact H | (rw [hy349]; exact H) | exact H
                      have Ny349 := am hy349
                      clear hy349
                      replace H := Option.bind_eq_some_iff.mp H
                      obtain ⟨⟨t352, t353⟩, A1680, H⟩ := H
                      try dsimp only at H
                      have A168 := am A1680
                      clear A1680
                      simp only [Option.some.injEq, Prod.mk.injEq] at H
                      obtain ⟨rfl, rfl⟩ := H
                      obtain ⟨jn_, hjn_⟩ : ∃ z_ : Int, (x9_5 + 1) % 256 = z_ := ⟨_, rfl⟩
                      have nyb_ := Ny349.out
                      rw [hjn_] at nyb_
                      clear Ny349
                      have Ny349 := am nyb_
                      clear nyb_
                      try go_wp2_with (first | ((with_reducible refine gate_builtin (b := .append) (xs := #[.tmp 165, .tmp 168]) rfl ?_); at_builtin; refine Kd.R_append (Kd.int .u8) (w0 := w) w.heap.size rfl (.tmp 165) (.tmp 168) 35 5 (.int .u8 0) 1 rfl Tryd.underlying35 info5 rfl (by decide) (by omega) u8 x8_4 ((48 + jn_) % 256) [.int .u8 ((48 + jn_) % 256)] (fun _ => True) (fun _ => False) rfl rfl ?aP (fun _ hk => hk.elim) ?aF ?aO ?aB ?aS ?aL ?_; (case aP => exact rfl); (case aB => exact pB); (case aF => exact (fun _ _ => trivial)); (case aO => exact (pR HO_8.out)); (case aS => exact (below_size pB)); (case aL => have := LMc167.out; omega); intro v350 w172 ho hb hg hat; rw [← Ny349.out] at ho; replace HO_273000 := am (Kd.V_afterv (ok := (fun k_ => some k_ ≠ (.slice Ao137 t325.length co137 : Value).ownBlock ∧ k_ ≠ gb272 ∧ k_ ≠ gb273)) (by (with_reducible repeat (first | apply Kd.V_alloc | apply Kd.V_drewN | apply Kd.V_drew)); exact Kd.V_mono HO_273000.out (fun _ hk => ⟨⟨hk.2, ⟨hk.1.2.1, hk.1.2.2⟩⟩, hk.1.1⟩)) hg hat); replace HO_273001 := am (Kd.V_afterv (ok := (fun k_ => some k_ ≠ (.slice Ao137 t325.length co137 : Value).ownBlock ∧ k_ ≠ gb272 ∧ k_ ≠ gb273)) (by (with_reducible repeat (first | apply Kd.V_alloc | apply Kd.V_drewN | apply Kd.V_drew)); exact Kd.V_mono HO_273001.out (fun _ hk => ⟨⟨hk.2, ⟨hk.1.2.1, hk.1.2.2⟩⟩, hk.1.1⟩)) hg hat); replace HO_273002 := am (Kd.V_afterv (ok := (fun k_ => some k_ ≠ (.slice Ao137 t325.length co137 : Value).ownBlock ∧ k_ ≠ gb272 ∧ k_ ≠ gb273)) (by (with_reducible repeat (first | apply Kd.V_alloc | apply Kd.V_drewN | apply Kd.V_drew)); exact Kd.V_mono HO_273002.out (fun _ hk => ⟨⟨hk.2, ⟨hk.1.2.1, hk.1.2.2⟩⟩, hk.1.1⟩)) hg hat); replace HO_273003 := am (Kd.V_afterv (ok := (fun k_ => some k_ ≠ (.slice Ao137 t325.length co137 : Value).ownBlock ∧ k_ ≠ gb272 ∧ k_ ≠ gb273)) (by (with_reducible repeat (first | apply Kd.V_alloc | apply Kd.V_drewN | apply Kd.V_drew)); exact Kd.V_mono HO_273003.out (fun _ hk => ⟨⟨hk.2, ⟨hk.1.2.1, hk.1.2.2⟩⟩, hk.1.1⟩)) hg hat); replace BK272 := am (blk_grown (g := gb272) (o := .cells #[.slice Ao87 x273000_5.length co87, .slice Ao58 x273001_2.length co58, .slice Ao88 x273002_4.length co88, u273003] 66 (0, 0)) (pK BK272.out) hg (pX HO_8.out BK272.out)); replace BK273 := am (blk_grown (g := gb273) (o := .cells #[.bool ((Go.bits .and .u64 a0 1) == 0)] 4 (0, 0)) (pK BK273.out) hg (pX HO_8.out BK273.out)); replace HO327 := am (Kd.R_over' (pR HO327.out) (Kd.R_typed (pR HO_8.out)) (by decide) hg); replace HB := am (hb); have HO351 := am (ho); clear HO_8; clear ho hb hg hat; obtain ⟨Ao173, co173, eo173⟩ := Kd.R_slice HO351.out; subst eo173) | ((with_reducible refine gate_callee (f := 41) rfl ?_); refine goesL_ (some 171) rfl rfl Tryd.func41 (by kernel_rfl) rfl #[.slice Ao173 y349.length co173, .int .i64 x7_3] rfl pM ?_; (with_reducible refine (dec_tidy.calls kj108 (fun k_ => some k_ = (.slice Ao173 y349.length co173 : Value).ownBlock) (.slice Ao173 y349.length co173) y349 x7_3 t352 t353 w _ ?side1 ?side2 A168.out).mono ?_); (case side1 => repeat (first | (with_reducible first | exact HB.out | apply below_alloc | apply pw_below_drewN | apply below_drew1 | refine below_set ?_ GE272.out | refine below_set ?_ GE273.out) | exact HB.out)); (case side2 => exact Kd.R_tight rfl HO351.out); rintro e w174 ⟨rfl, hb, hkp⟩; refine ⟨_, rfl, ?_⟩; replace HO_273000 := am (Kd.V_mono (ok' := fun k_ => some k_ ≠ (.slice Ao137 t325.length co137 : Value).ownBlock ∧ k_ ≠ gb272 ∧ k_ ≠ gb273) (Kd.V_keptB (HO_273000.out) hkp (fun k_ hk_ hs_ => (hk_.2) hs_)) (fun k_ hk_ => ⟨hk_.1.1.1, hk_.1.1.2.1, hk_.1.1.2.2⟩)); replace HO_273001 := am (Kd.V_mono (ok' := fun k_ => some k_ ≠ (.slice Ao137 t325.length co137 : Value).ownBlock ∧ k_ ≠ gb272 ∧ k_ ≠ gb273) (Kd.V_keptB (HO_273001.out) hkp (fun k_ hk_ hs_ => (hk_.2) hs_)) (fun k_ hk_ => ⟨hk_.1.1.1, hk_.1.1.2.1, hk_.1.1.2.2⟩)); replace HO_273002 := am (Kd.V_mono (ok' := fun k_ => some k_ ≠ (.slice Ao137 t325.length co137 : Value).ownBlock ∧ k_ ≠ gb272 ∧ k_ ≠ gb273) (Kd.V_keptB (HO_273002.out) hkp (fun k_ hk_ hs_ => (hk_.2) hs_)) (fun k_ hk_ => ⟨hk_.1.1.1, hk_.1.1.2.1, hk_.1.1.2.2⟩)); replace HO_273003 := am (Kd.V_mono (ok' := fun k_ => some k_ ≠ (.slice Ao137 t325.length co137 : Value).ownBlock ∧ k_ ≠ gb272 ∧ k_ ≠ gb273) (Kd.V_keptB (HO_273003.out) hkp (fun k_ hk_ hs_ => (hk_.2) hs_)) (fun k_ hk_ => ⟨hk_.1.1.1, hk_.1.1.2.1, hk_.1.1.2.2⟩)); replace BK272 := am (blk_kept (pK BK272.out) hkp (fun hs_ => (fun e_ => (pX HO351.out BK272.out) e_) hs_)); replace BK273 := am (blk_kept (pK BK273.out) hkp (fun hs_ => (fun e_ => (pX HO351.out BK273.out) e_) hs_)); replace HO327 := am (Kd.R_mono (ok' := fun k_ => True) (Kd.R_keptB ((Kd.R_apart' HO327.out (Kd.R_typed HO351.out) (by decide))) hkp (fun k_ hk_ hs_ => (hk_.2) hs_)) (fun k_ hk_ => trivial)); replace HB := am (hb); clear HO351; (try clear hb); (try clear hkp)))
                      go_ret2
                      exact ⟨pE, pB⟩
                     ·rw [if_neg c167] at H
                      exact absurd H (by simp)
                   ·replace c130 := Bool.eq_false_iff.mpr c130
                    subst c130
                    rw [if_neg (show ¬ (false = true) by decide)] at H
                    by_cases c175 : x8_4.length < 140737488355328
                    ·rw [if_pos c175] at H
                     have LMc175 := am c175
                     clear c175
                     obtain ⟨y354, hy354⟩ : ∃ y_ : List Int, y_ = (x8_4 ++ [(48 + x9_5) % 256]) := ⟨_, rfl⟩
                     replace H : ((dec_tidy.f kj108 y354 x7_3).bind fun bt357 => (some (bt357.1, bt357.2))) = some (r1, r2) := by first | (rw [hy354]; with_reducible exact H) | (have H2_ := (Option.bind_some _ _).symm.trans H; rw [hy354]; with_reducible exact H2_) | (have H2_ := (Option.bind_some _ _).symm.trans H; with_reducible exact H2_) | with_reducible exact H | (rw [hy354]; exact H) | exact H
                     have Ny354 := am hy354
                     clear hy354
                     replace H := Option.bind_eq_some_iff.mp H
                     obtain ⟨⟨t357, t358⟩, A1760, H⟩ := H
                     try dsimp only at H
                     have A176 := am A1760
                     clear A1760
                     simp only [Option.some.injEq, Prod.mk.injEq] at H
                     obtain ⟨rfl, rfl⟩ := H
                     try go_wp2_with (first | ((with_reducible refine gate_builtin (b := .append) (xs := #[.tmp 165, .tmp 168]) rfl ?_); at_builtin; refine Kd.R_append (Kd.int .u8) (w0 := w) w.heap.size rfl (.tmp 165) (.tmp 168) 35 5 (.int .u8 0) 1 rfl Tryd.underlying35 info5 rfl (by decide) (by omega) u8 x8_4 ((48 + x9_5) % 256) [.int .u8 ((48 + x9_5) % 256)] (fun _ => True) (fun _ => False) rfl rfl ?aP (fun _ hk => hk.elim) ?aF ?aO ?aB ?aS ?aL ?_; (case aP => exact rfl); (case aB => exact pB); (case aF => exact (fun _ _ => trivial)); (case aO => exact (pR HO_8.out)); (case aS => exact (below_size pB)); (case aL => have := LMc175.out; omega); intro v355 w180 ho hb hg hat; rw [← Ny354.out] at ho; replace HO_273000 := am (Kd.V_afterv (ok := (fun k_ => some k_ ≠ (.slice Ao137 t325.length co137 : Value).ownBlock ∧ k_ ≠ gb272 ∧ k_ ≠ gb273)) (by (with_reducible repeat (first | apply Kd.V_alloc | apply Kd.V_drewN | apply Kd.V_drew)); exact Kd.V_mono HO_273000.out (fun _ hk => ⟨⟨hk.2, ⟨hk.1.2.1, hk.1.2.2⟩⟩, hk.1.1⟩)) hg hat); replace HO_273001 := am (Kd.V_afterv (ok := (fun k_ => some k_ ≠ (.slice Ao137 t325.length co137 : Value).ownBlock ∧ k_ ≠ gb272 ∧ k_ ≠ gb273)) (by (with_reducible repeat (first | apply Kd.V_alloc | apply Kd.V_drewN | apply Kd.V_drew)); exact Kd.V_mono HO_273001.out (fun _ hk => ⟨⟨hk.2, ⟨hk.1.2.1, hk.1.2.2⟩⟩, hk.1.1⟩)) hg hat); replace HO_273002 := am (Kd.V_afterv (ok := (fun k_ => some k_ ≠ (.slice Ao137 t325.length co137 : Value).ownBlock ∧ k_ ≠ gb272 ∧ k_ ≠ gb273)) (by (with_reducible repeat (first | apply Kd.V_alloc | apply Kd.V_drewN | apply Kd.V_drew)); exact Kd.V_mono HO_273002.out (fun _ hk => ⟨⟨hk.2, ⟨hk.1.2.1, hk.1.2.2⟩⟩, hk.1.1⟩)) hg hat); replace HO_273003 := am (Kd.V_afterv (ok := (fun k_ => some k_ ≠ (.slice Ao137 t325.length co137 : Value).ownBlock ∧ k_ ≠ gb272 ∧ k_ ≠ gb273)) (by (with_reducible repeat (first | apply Kd.V_alloc | apply Kd.V_drewN | apply Kd.V_drew)); exact Kd.V_mono HO_273003.out (fun _ hk => ⟨⟨hk.2, ⟨hk.1.2.1, hk.1.2.2⟩⟩, hk.1.1⟩)) hg hat); replace BK272 := am (blk_grown (g := gb272) (o := .cells #[.slice Ao87 x273000_5.length co87, .slice Ao58 x273001_2.length co58, .slice Ao88 x273002_4.length co88, u273003] 66 (0, 0)) (pK BK272.out) hg (pX HO_8.out BK272.out)); replace BK273 := am (blk_grown (g := gb273) (o := .cells #[.bool ((Go.bits .and .u64 a0 1) == 0)] 4 (0, 0)) (pK BK273.out) hg (pX HO_8.out BK273.out)); replace HO327 := am (Kd.R_over' (pR HO327.out) (Kd.R_typed (pR HO_8.out)) (by decide) hg); replace HB := am (hb); have HO356 := am (ho); clear HO_8; clear ho hb hg hat; obtain ⟨Ao181, co181, eo181⟩ := Kd.R_slice HO356.out; subst eo181) | ((with_reducible refine gate_callee (f := 41) rfl ?_); refine goesL_ (some 171) rfl rfl Tryd.func41 (by kernel_rfl) rfl #[.slice Ao181 y354.length co181, .int .i64 x7_3] rfl pM ?_; (with_reducible refine (dec_tidy.calls kj108 (fun k_ => some k_ = (.slice Ao181 y354.length co181 : Value).ownBlock) (.slice Ao181 y354.length co181) y354 x7_3 t357 t358 w _ ?side1 ?side2 A176.out).mono ?_); (case side1 => repeat (first | (with_reducible first | exact HB.out | apply below_alloc | apply pw_below_drewN | apply below_drew1 | refine below_set ?_ GE272.out | refine below_set ?_ GE273.out) | exact HB.out)); (case side2 => exact Kd.R_tight rfl HO356.out); rintro e w182 ⟨rfl, hb, hkp⟩; refine ⟨_, rfl, ?_⟩; replace HO_273000 := am (Kd.V_mono (ok' := fun k_ => some k_ ≠ (.slice Ao137 t325.length co137 : Value).ownBlock ∧ k_ ≠ gb272 ∧ k_ ≠ gb273) (Kd.V_keptB (HO_273000.out) hkp (fun k_ hk_ hs_ => (hk_.2) hs_)) (fun k_ hk_ => ⟨hk_.1.1.1, hk_.1.1.2.1, hk_.1.1.2.2⟩)); replace HO_273001 := am (Kd.V_mono (ok' := fun k_ => some k_ ≠ (.slice Ao137 t325.length co137 : Value).ownBlock ∧ k_ ≠ gb272 ∧ k_ ≠ gb273) (Kd.V_keptB (HO_273001.out) hkp (fun k_ hk_ hs_ => (hk_.2) hs_)) (fun k_ hk_ => ⟨hk_.1.1.1, hk_.1.1.2.1, hk_.1.1.2.2⟩)); replace HO_273002 := am (Kd.V_mono (ok' := fun k_ => some k_ ≠ (.slice Ao137 t325.length co137 : Value).ownBlock ∧ k_ ≠ gb272 ∧ k_ ≠ gb273) (Kd.V_keptB (HO_273002.out) hkp (fun k_ hk_ hs_ => (hk_.2) hs_)) (fun k_ hk_ => ⟨hk_.1.1.1, hk_.1.1.2.1, hk_.1.1.2.2⟩)); replace HO_273003 := am (Kd.V_mono (ok' := fun k_ => some k_ ≠ (.slice Ao137 t325.length co137 : Value).ownBlock ∧ k_ ≠ gb272 ∧ k_ ≠ gb273) (Kd.V_keptB (HO_273003.out) hkp (fun k_ hk_ hs_ => (hk_.2) hs_)) (fun k_ hk_ => ⟨hk_.1.1.1, hk_.1.1.2.1, hk_.1.1.2.2⟩)); replace BK272 := am (blk_kept (pK BK272.out) hkp (fun hs_ => (fun e_ => (pX HO356.out BK272.out) e_) hs_)); replace BK273 := am (blk_kept (pK BK273.out) hkp (fun hs_ => (fun e_ => (pX HO356.out BK273.out) e_) hs_)); replace HO327 := am (Kd.R_mono (ok' := fun k_ => True) (Kd.R_keptB ((Kd.R_apart' HO327.out (Kd.R_typed HO356.out) (by decide))) hkp (fun k_ hk_ hs_ => (hk_.2) hs_)) (fun k_ hk_ => trivial)); replace HB := am (hb); clear HO356; (try clear hb); (try clear hkp)))
                     go_ret2
                     exact ⟨pE, pB⟩
                    ·rw [if_neg c175] at H
                     exact absurd H (by simp)
        ·replace c67 := Bool.eq_false_iff.mpr c67
         subst c67
         rw [if_neg (show ¬ (false = true) by decide)] at H
         replace H := Option.bind_eq_some_iff.mp H
         obtain ⟨t296, A1830, H⟩ := H
         try dsimp only at H
         have A183 := am A1830
         clear A1830
         replace H := Option.bind_eq_some_iff.mp H
         obtain ⟨t299, A1840, H⟩ := H
         try dsimp only at H
         have A184 := am A1840
         clear A1840
         replace H := Option.bind_eq_some_iff.mp H
         obtain ⟨t302, A1850, H⟩ := H
         try dsimp only at H
         have A185 := am A1850
         clear A1850
         have H' := am H
         clear H
         have hnb186 := NB272_273.out
         have hnc186 := NB273_272.out
         have q187 := cf4 BK272.out
         have q188 := cf1 BK273.out
         obtain ⟨Ao189, co189, eo189⟩ := Kd.V_slice HO_273000.out
         subst eo189
         obtain ⟨Ao190, co190, eo190⟩ := Kd.V_slice HO_273003.out
         subst eo190
         try go_wp2_with (first | (go_at_call 33; (with_reducible refine (dec_high.calls k3 _ _ x273001_2 Ao189 co189 x273000_3 Ao190 co190 x273003_3 ((Go.bits .and .u64 a0 1) == 0) false _ ?side1 ?side2 ?side3 ?side4 ?side5 ?side6 A66.out gb272 gb273 ?side7 ?side8 ?side9).mono ?_); (case side7 => first | exact cz0 BK272.out | exact (blk_cell (pK BK272.out) 0).trans rfl); (case side8 => first | exact cz3 BK272.out | exact (blk_cell (pK BK272.out) 3).trans rfl); (case side9 => first | exact cz0 BK273.out | exact (blk_cell (pK BK273.out) 0).trans rfl); (case side1 => repeat (first | exact (Kd.V_reads' HO_273001.out).2.2 | (with_reducible refine Kd.C_alloc ?_ _) | (with_reducible refine Kd.C_drewN ?_ _) | (with_reducible refine Kd.C_drew ?_))); (case side2 => exact (Kd.V_reads' HO_273001.out).2.1); (case side3 => repeat (first | exact (Kd.V_reads' HO_273000.out).2.2 | (with_reducible refine Kd.C_alloc ?_ _) | (with_reducible refine Kd.C_drewN ?_ _) | (with_reducible refine Kd.C_drew ?_))); (case side4 => exact (Kd.V_reads' HO_273000.out).2.1); (case side5 => repeat (first | exact (Kd.V_reads' HO_273003.out).2.2 | (with_reducible refine Kd.C_alloc ?_ _) | (with_reducible refine Kd.C_drewN ?_ _) | (with_reducible refine Kd.C_drew ?_))); (case side6 => exact (Kd.V_reads' HO_273003.out).2.1); rintro e w191 ⟨rfl, hb⟩; replace HO_273000 := am (Kd.V_below (pV HO_273000.out) hb); replace HO_273001 := am (Kd.V_below (pV HO_273001.out) hb); replace HO_273002 := am (Kd.V_below (pV HO_273002.out) hb); replace HO_273003 := am (Kd.V_below (pV HO_273003.out) hb); replace BK272 := am (pkb BK272.out hb); replace BK273 := am (pkb BK273.out hb); replace HB := am (below_step pB hb); (try clear hb)))
         replace HO_273000 := am (Kd.V_drew HO_273000.out)
         replace HO_273001 := am (Kd.V_drew HO_273001.out)
         replace HO_273002 := am (Kd.V_drew HO_273002.out)
         replace HO_273003 := am (Kd.V_drew HO_273003.out)
         replace BK272 := am (blk_drew BK272.out)
         replace BK273 := am (blk_drew BK273.out)
         replace HB := am (below_drew1 HB.out)
         refine start_ (n := 18) (S := fun w' => w'.cell? ⟨gb272, 0, none⟩ = some (.slice Ao189 x273000_3.length co189) ∧ w'.cell? ⟨gb272, 1, none⟩ = some (.slice Ao58 x273001_2.length co58) ∧ w'.cell? ⟨gb272, 2, none⟩ = some (u273002) ∧ w'.cell? ⟨gb272, 3, none⟩ = some (.slice Ao190 x273003_3.length co190)) (ds := [12, 14, 16]) (bm 18 0) (by kernel_rfl) rfl rfl ⟨cz0 BK272.out, cz1 BK272.out, cz2 BK272.out, cz3 BK272.out⟩ (fun hHeld => ?_); refine with_tabW dec_shortest.tab11 dec_shortest.bits11 (fun HT_ HW_ => ?_)
         generalize w191.drew = w192 at HO_273000 HO_273001 HO_273002 HO_273003 BK272 BK273 HB hHeld ⊢
         refine pure_ (i := 0) (N := some 70) (v := ?_) (a' := ?_) (bm 18 1) rfl rfl (any_of HT_.out (by kernel_rfl)) (fun _ _ _ h => h) (Or.inl ⟨by kernel_rfl, ?_⟩) ?_ ?_
         rotate_left
         ·intro w'
          go_simp
          with_reducible rfl
         rotate_left
         ·exact pA
         refine pure_ (i := 3) (N := some 73) (v := ?_) (a' := ?_) (bm 18 9) rfl rfl (any_of HT_.out (by kernel_rfl)) (fun _ _ _ h => h) (Or.inl ⟨by kernel_rfl, ?_⟩) ?_ ?_
         rotate_left
         ·intro w'
          go_simp
          with_reducible rfl
         rotate_left
         ·exact pA
         refine pure_ (i := 6) (N := some 76) (v := ?_) (a' := ?_) (bm 18 73) rfl rfl (any_of HT_.out (by kernel_rfl)) (fun _ _ _ h => h) (Or.inl ⟨by kernel_rfl, ?_⟩) ?_ ?_
         rotate_left
         ·intro w'
          go_simp
          with_reducible rfl
         rotate_left
         ·exact pA
         refine pure_ (i := 9) (N := some 79) (v := ?_) (a' := ?_) (bm 18 585) rfl rfl (any_of HT_.out (by kernel_rfl)) (fun _ _ _ h => h) (Or.inl ⟨by kernel_rfl, ?_⟩) ?_ ?_
         rotate_left
         ·intro w'
          go_simp
          with_reducible rfl
         rotate_left
         ·exact pA
         refine pure_ (i := 10) (N := some 80) (v := ?_) (a' := ?_) (bm 18 1609) rfl rfl (any_of HT_.out (by kernel_rfl)) (fun _ _ _ h => h) (Or.inl ⟨by kernel_rfl, ?_⟩) ?_ ?_
         rotate_left
         ·intro w'
          go_simp
          with_reducible rfl
         rotate_left
         ·exact pA
         refine take_ (i := 1) (N := some 71) (v := ?_) (a' := ?_) (bm 18 1611) rfl rfl (take_ofW HT_.out HW_.out (by kernel_rfl)) (fun _ _ _ h => h) (Or.inl ⟨by kernel_rfl, ?_⟩) hHeld ?_ ?_
         rotate_left
         ·rintro w' ⟨s0, s1, s2, s3⟩
          go_simp
          with_reducible rfl
         rotate_left
         ·exact pA
         refine take_ (i := 4) (N := some 74) (v := ?_) (a' := ?_) (bm 18 1627) rfl rfl (take_ofW HT_.out HW_.out (by kernel_rfl)) (fun _ _ _ h => h) (Or.inl ⟨by kernel_rfl, ?_⟩) hHeld ?_ ?_
         rotate_left
         ·rintro w' ⟨s0, s1, s2, s3⟩
          go_simp
          with_reducible rfl
         rotate_left
         ·exact pA
         refine take_ (i := 7) (N := some 77) (v := ?_) (a' := ?_) (bm 18 1755) rfl rfl (take_ofW HT_.out HW_.out (by kernel_rfl)) (fun _ _ _ h => h) (Or.inl ⟨by kernel_rfl, ?_⟩) hHeld ?_ ?_
         rotate_left
         ·rintro w' ⟨s0, s1, s2, s3⟩
          go_simp
          with_reducible rfl
         rotate_left
         ·exact pA
         refine one_ (i := 2) (N := some 72) (bm 18 1759) rfl rfl (one_of HT_.out (by kernel_rfl)) (by decide) (fun K hK => ?_)
         refine goes_ Tryd.func38 (by kernel_rfl) rfl #[.slice Ao189 x273000_3.length co189, .int .u32 10, .int .u32 0] (by rfl) rfl rfl pM ?_
         with_reducible refine (dec_big_times.calls k3 _ _ x273000_3 10 0 t296 _ ?side1 ?side2 A183.out).mono ?_
         (case side1 => repeat (first | exact (Kd.V_reads' HO_273000.out).2.2 | (with_reducible refine Kd.C_alloc ?_ _) | (with_reducible refine Kd.C_drewN ?_ _) | (with_reducible refine Kd.C_drew ?_)))
         (case side2 => exact (Kd.V_reads' HO_273000.out).2.1)
         rintro e w193 ⟨v297, rfl, ho0, hb⟩
         refine ⟨_, rfl, ?_⟩
         have n0_ := am (Kd.V_below (pV HO_273000.out) hb)
         have n1_ := am (Kd.V_below (pV HO_273001.out) hb)
         have n2_ := am (Kd.V_below (pV HO_273002.out) hb)
         have n3_ := am (Kd.V_below (pV HO_273003.out) hb)
         have n4_ := am (Kd.V_lower (Kd.V_mono (ok' := fun k_ => k_ ≠ gb272 ∧ k_ ≠ gb273) ho0 (fun k_ hk_ => ⟨(Kd.freshB (g := gb272) (o := .cells #[.slice Ao189 x273000_3.length co189, .slice Ao58 x273001_2.length co58, u273002, .slice Ao190 x273003_3.length co190] 66 (0, 0)) (pK BK272.out) k_ hk_), (Kd.freshB (g := gb273) (o := .cells #[.bool ((Go.bits .and .u64 a0 1) == 0)] 4 (0, 0)) (pK BK273.out) k_ hk_)⟩)) (below_size pB))
         have n5_ := am (pkb BK272.out hb)
         have n6_ := am (pkb BK273.out hb)
         have n7_ := am (below_step pB hb)
         clear HO_273000 HO_273001 HO_273002 HO_273003 BK272 BK273 HB; have HO_273000 := n0_; have HO_273001 := n1_; have HO_273002 := n2_; have HO_273003 := n3_; have HO298 := n4_; have BK272 := n5_; have BK273 := n6_; have HB := n7_; clear n0_ n1_ n2_ n3_ n4_ n5_ n6_ n7_; (try clear hb); (try clear ho0)
         obtain ⟨Ao194, co194, eo194⟩ := Kd.V_slice HO_273002.out
         (first | subst eo194 | (injection eo194 with f1_ f2_ f3_; have f4_ := f1_.symm; have f5_ := f3_.symm; clear f1_ f2_ f3_; subst f4_; subst f5_))
         refine hK.out _ _ ⟨cz0 BK272.out, cz1 BK272.out, cz2 BK272.out, cz3 BK272.out⟩ (fun hHeld => ?_)
         clear hK K
         refine norm_ (a' := ?_) ?_ ?_
         rotate_left
         ·show Act.put _ (some 72) _ = _
          exact pA
         refine pure_ (i := 11) (N := some 81) (v := ?_) (a' := ?_) (bm 18 3807) rfl rfl (any_of HT_.out (by kernel_rfl)) (fun _ _ _ h => h) (Or.inl ⟨by kernel_rfl, ?_⟩) ?_ ?_
         rotate_left
         ·intro w'
          go_simp
          with_reducible rfl
         rotate_left
         ·exact pA
         refine one_ (i := 5) (N := some 75) (bm 18 3839) rfl rfl (one_of HT_.out (by kernel_rfl)) (by decide) (fun K hK => ?_)
         refine goes_ Tryd.func38 (by kernel_rfl) rfl #[.slice Ao194 x273002_3.length co194, .int .u32 10, .int .u32 0] (by rfl) rfl rfl pM ?_
         with_reducible refine (dec_big_times.calls k3 _ _ x273002_3 10 0 t299 _ ?side1 ?side2 A184.out).mono ?_
         (case side1 => repeat (first | exact (Kd.V_reads' HO_273002.out).2.2 | (with_reducible refine Kd.C_alloc ?_ _) | (with_reducible refine Kd.C_drewN ?_ _) | (with_reducible refine Kd.C_drew ?_)))
         (case side2 => exact (Kd.V_reads' HO_273002.out).2.1)
         rintro e w195 ⟨v300, rfl, ho0, hb⟩
         refine ⟨_, rfl, ?_⟩
         have n0_ := am (Kd.V_below (pV HO_273000.out) hb)
         have n1_ := am (Kd.V_below (pV HO_273001.out) hb)
         have n2_ := am (Kd.V_below (pV HO_273002.out) hb)
         have n3_ := am (Kd.V_below (pV HO_273003.out) hb)
         have n4_ := am (Kd.V_below (pV HO298.out) hb)
         have n5_ := am (Kd.V_lower (Kd.V_mono (ok' := fun k_ => k_ ≠ gb272 ∧ k_ ≠ gb273) ho0 (fun k_ hk_ => ⟨(Kd.freshB (g := gb272) (o := .cells #[.slice Ao189 x273000_3.length co189, .slice Ao58 x273001_2.length co58, .slice Ao194 x273002_3.length co194, .slice Ao190 x273003_3.length co190] 66 (0, 0)) (pK BK272.out) k_ hk_), (Kd.freshB (g := gb273) (o := .cells #[.bool ((Go.bits .and .u64 a0 1) == 0)] 4 (0, 0)) (pK BK273.out) k_ hk_)⟩)) (below_size pB))
         have n6_ := am (pkb BK272.out hb)
         have n7_ := am (pkb BK273.out hb)
         have n8_ := am (below_step pB hb)
         clear HO_273000 HO_273001 HO_273002 HO_273003 HO298 BK272 BK273 HB; have HO_273000 := n0_; have HO_273001 := n1_; have HO_273002 := n2_; have HO_273003 := n3_; have HO298 := n4_; have HO301 := n5_; have BK272 := n6_; have BK273 := n7_; have HB := n8_; clear n0_ n1_ n2_ n3_ n4_ n5_ n6_ n7_ n8_; (try clear hb); (try clear ho0)
         refine hK.out _ _ ⟨cz0 BK272.out, cz1 BK272.out, cz2 BK272.out, cz3 BK272.out⟩ (fun hHeld => ?_)
         clear hK K
         refine norm_ (a' := ?_) ?_ ?_
         rotate_left
         ·show Act.put _ (some 75) _ = _
          exact pA
         refine one_ (i := 8) (N := some 78) (bm 18 4095) rfl rfl (one_of HT_.out (by kernel_rfl)) (by decide) (fun K hK => ?_)
         refine goes_ Tryd.func38 (by kernel_rfl) rfl #[.slice Ao190 x273003_3.length co190, .int .u32 10, .int .u32 0] (by rfl) rfl rfl pM ?_
         with_reducible refine (dec_big_times.calls k3 _ _ x273003_3 10 0 t302 _ ?side1 ?side2 A185.out).mono ?_
         (case side1 => repeat (first | exact (Kd.V_reads' HO_273003.out).2.2 | (with_reducible refine Kd.C_alloc ?_ _) | (with_reducible refine Kd.C_drewN ?_ _) | (with_reducible refine Kd.C_drew ?_)))
         (case side2 => exact (Kd.V_reads' HO_273003.out).2.1)
         rintro e w196 ⟨v303, rfl, ho0, hb⟩
         refine ⟨_, rfl, ?_⟩
         have n0_ := am (Kd.V_below (pV HO_273000.out) hb)
         have n1_ := am (Kd.V_below (pV HO_273001.out) hb)
         have n2_ := am (Kd.V_below (pV HO_273002.out) hb)
         have n3_ := am (Kd.V_below (pV HO_273003.out) hb)
         have n4_ := am (Kd.V_below (pV HO298.out) hb)
         have n5_ := am (Kd.V_below (pV HO301.out) hb)
         have n6_ := am (Kd.V_lower (Kd.V_mono (ok' := fun k_ => k_ ≠ gb272 ∧ k_ ≠ gb273) ho0 (fun k_ hk_ => ⟨(Kd.freshB (g := gb272) (o := .cells #[.slice Ao189 x273000_3.length co189, .slice Ao58 x273001_2.length co58, .slice Ao194 x273002_3.length co194, .slice Ao190 x273003_3.length co190] 66 (0, 0)) (pK BK272.out) k_ hk_), (Kd.freshB (g := gb273) (o := .cells #[.bool ((Go.bits .and .u64 a0 1) == 0)] 4 (0, 0)) (pK BK273.out) k_ hk_)⟩)) (below_size pB))
         have n7_ := am (pkb BK272.out hb)
         have n8_ := am (pkb BK273.out hb)
         have n9_ := am (below_step pB hb)
         clear HO_273000 HO_273001 HO_273002 HO_273003 HO298 HO301 BK272 BK273 HB; have HO_273000 := n0_; have HO_273001 := n1_; have HO_273002 := n2_; have HO_273003 := n3_; have HO298 := n4_; have HO301 := n5_; have HO304 := n6_; have BK272 := n7_; have BK273 := n8_; have HB := n9_; clear n0_ n1_ n2_ n3_ n4_ n5_ n6_ n7_ n8_ n9_; (try clear hb); (try clear ho0)
         obtain ⟨Ao197, co197, eo197⟩ := Kd.V_slice HO298.out
         (first | subst eo197 | (injection eo197 with f1_ f2_ f3_; have f4_ := f1_.symm; have f5_ := f3_.symm; clear f1_ f2_ f3_; subst f4_; subst f5_))
         obtain ⟨Ao199, co199, eo199⟩ := Kd.V_slice HO301.out
         (first | subst eo199 | (injection eo199 with f1_ f2_ f3_; have f4_ := f1_.symm; have f5_ := f3_.symm; clear f1_ f2_ f3_; subst f4_; subst f5_))
         obtain ⟨Ao201, co201, eo201⟩ := Kd.V_slice HO304.out
         (first | subst eo201 | (injection eo201 with f1_ f2_ f3_; have f4_ := f1_.symm; have f5_ := f3_.symm; clear f1_ f2_ f3_; subst f4_; subst f5_))
         refine hK.out _ _ ⟨cz0 BK272.out, cz1 BK272.out, cz2 BK272.out, cz3 BK272.out⟩ (fun hHeld => ?_)
         clear hK K
         refine norm_ (a' := ?_) ?_ ?_
         rotate_left
         ·show Act.put _ (some 78) _ = _
          exact pA
         refine last_ (i := 12) (N := none) (bm 18 8191) rfl rfl (one_of HT_.out (by kernel_rfl)) (by decide) (fun K hK => ?_)
         have hs198 : w196.cell? ⟨gb272, 0, none⟩ = some (.slice Ao189 x273000_3.length co189) := cz0 BK272.out
         have hfs198 := blk_frozen BK272.out 0
         have hns198_1 := NB273_272.out
         have hms198_1 := NB272_273.out
         refine skip_ (w1 := ?_) ?hw rfl ?_ ?_; (case hw => kernel_rfl)
         rotate_left
         ·go_simp
          rfl
         refine hK.out _ _ ?_
         clear hK K
         refine pure_ (i := 13) (N := some 82) (v := ?_) (a' := ?_) (bm 18 16383) rfl rfl (any_of HT_.out (by kernel_rfl)) (fun _ _ _ h => h) (Or.inl ⟨by kernel_rfl, ?_⟩) ?_ ?_
         rotate_left
         ·intro w'
          go_simp
          with_reducible rfl
         rotate_left
         ·exact pA
         refine last_ (i := 14) (N := none) (bm 18 32767) rfl rfl (one_of HT_.out (by kernel_rfl)) (by decide) (fun K hK => ?_)
         have hs200 : w196.cell? ⟨gb272, 2, none⟩ = some (.slice Ao194 x273002_3.length co194) := cz2 BK272.out
         have hfs200 := blk_frozen BK272.out 2
         have hns200_1 := NB273_272.out
         have hms200_1 := NB272_273.out
         refine skip_ (w1 := ?_) ?hw rfl ?_ ?_; (case hw => kernel_rfl)
         rotate_left
         ·go_simp
          rfl
         refine hK.out _ _ ?_
         clear hK K
         refine pure_ (i := 15) (N := some 83) (v := ?_) (a' := ?_) (bm 18 65535) rfl rfl (any_of HT_.out (by kernel_rfl)) (fun _ _ _ h => h) (Or.inl ⟨by kernel_rfl, ?_⟩) ?_ ?_
         rotate_left
         ·intro w'
          go_simp
          with_reducible rfl
         rotate_left
         ·exact pA
         refine last_ (i := 16) (N := none) (bm 18 131071) rfl rfl (one_of HT_.out (by kernel_rfl)) (by decide) (fun K hK => ?_)
         have hs202 : w196.cell? ⟨gb272, 3, none⟩ = some (.slice Ao190 x273003_3.length co190) := cz3 BK272.out
         have hfs202 := blk_frozen BK272.out 3
         have hns202_1 := NB273_272.out
         have hms202_1 := NB272_273.out
         refine skip_ (w1 := ?_) ?hw rfl ?_ ?_; (case hw => kernel_rfl)
         rotate_left
         ·go_simp
          rfl
         refine hK.out _ _ ?_
         clear hK K
         refine pure_ (i := 17) (N := some 7) (v := ?_) (a' := ?_) (bm 18 262143) rfl rfl (any_of HT_.out (by kernel_rfl)) (fun _ _ _ h => h) (Or.inl ⟨by kernel_rfl, ?_⟩) ?_ ?_
         rotate_left
         ·intro w'
          go_simp
          with_reducible rfl
         rotate_left
         ·exact pA
         refine done_ (done_of HT_.out (by kernel_rfl)) ?_
         try go_wp2
         go_roundg k3
         case measure => have := HJ4.out; have := HK2.out; have := HK3.out; omega
         case rel => exact ⟨(wrap64 (x7_3 - 1)), (t296), (t299), (t302), (.slice Ao197 t296.length co197), (.slice Ao199 t299.length co199), (.slice Ao201 t302.length co201), (by first | rfl | (simp; done) | (simp [*]; done)), H', ⟨by have := HJ4.out; have := HK2.out; have := HK3.out; omega⟩, ⟨by (with_reducible repeat (first | apply Kd.V_alloc | apply Kd.V_drewN | apply Kd.V_drew)); exact Kd.V_mono (Kd.V_far (p := ⟨gb272, 3, none⟩) (Kd.V_far (p := ⟨gb272, 2, none⟩) (Kd.V_far (p := ⟨gb272, 0, none⟩) (Kd.V_mono HO298.out (fun k_ hk => (⟨hk, hk.1⟩ : _ ∧ k_ ≠ gb272))) (fun _ hk => hk.2) (.slice Ao197 t296.length co197)) (fun _ hk => hk.2) (.slice Ao199 t299.length co199)) (fun _ hk => hk.2) (.slice Ao201 t302.length co201)) (fun _ hk => ⟨hk.1.1, hk.1.2⟩)⟩, ⟨by (with_reducible repeat (first | apply Kd.V_alloc | apply Kd.V_drewN | apply Kd.V_drew)); exact Kd.V_mono (Kd.V_far (p := ⟨gb272, 3, none⟩) (Kd.V_far (p := ⟨gb272, 2, none⟩) (Kd.V_far (p := ⟨gb272, 0, none⟩) (Kd.V_mono HO_273001.out (fun k_ hk => (⟨hk, hk.1⟩ : _ ∧ k_ ≠ gb272))) (fun _ hk => hk.2) (.slice Ao197 t296.length co197)) (fun _ hk => hk.2) (.slice Ao199 t299.length co199)) (fun _ hk => hk.2) (.slice Ao201 t302.length co201)) (fun _ hk => ⟨hk.1.1, hk.1.2⟩)⟩, ⟨by (with_reducible repeat (first | apply Kd.V_alloc | apply Kd.V_drewN | apply Kd.V_drew)); exact Kd.V_mono (Kd.V_far (p := ⟨gb272, 3, none⟩) (Kd.V_far (p := ⟨gb272, 2, none⟩) (Kd.V_far (p := ⟨gb272, 0, none⟩) (Kd.V_mono HO301.out (fun k_ hk => (⟨hk, hk.1⟩ : _ ∧ k_ ≠ gb272))) (fun _ hk => hk.2) (.slice Ao197 t296.length co197)) (fun _ hk => hk.2) (.slice Ao199 t299.length co199)) (fun _ hk => hk.2) (.slice Ao201 t302.length co201)) (fun _ hk => ⟨hk.1.1, hk.1.2⟩)⟩, ⟨by (with_reducible repeat (first | apply Kd.V_alloc | apply Kd.V_drewN | apply Kd.V_drew)); exact Kd.V_mono (Kd.V_far (p := ⟨gb272, 3, none⟩) (Kd.V_far (p := ⟨gb272, 2, none⟩) (Kd.V_far (p := ⟨gb272, 0, none⟩) (Kd.V_mono HO304.out (fun k_ hk => (⟨hk, hk.1⟩ : _ ∧ k_ ≠ gb272))) (fun _ hk => hk.2) (.slice Ao197 t296.length co197)) (fun _ hk => hk.2) (.slice Ao199 t299.length co199)) (fun _ hk => hk.2) (.slice Ao201 t302.length co201)) (fun _ hk => ⟨hk.1.1, hk.1.2⟩)⟩, ⟨by (with_reducible repeat (first | refine blk_drewN ?_ _ | refine blk_drew ?_ | refine blk_alloc ?_ _)); refine blk_put (cs := #[.slice Ao197 t296.length co197, .slice Ao58 x273001_2.length co58, .slice Ao199 t299.length co199, .slice Ao190 x273003_3.length co190]) ?_ 3 _ rfl; (with_reducible repeat (first | refine blk_drewN ?_ _ | refine blk_drew ?_ | refine blk_alloc ?_ _)); refine blk_put (cs := #[.slice Ao197 t296.length co197, .slice Ao58 x273001_2.length co58, .slice Ao194 x273002_3.length co194, .slice Ao190 x273003_3.length co190]) ?_ 2 _ rfl; (with_reducible repeat (first | refine blk_drewN ?_ _ | refine blk_drew ?_ | refine blk_alloc ?_ _)); refine blk_put (cs := #[.slice Ao189 x273000_3.length co189, .slice Ao58 x273001_2.length co58, .slice Ao194 x273002_3.length co194, .slice Ao190 x273003_3.length co190]) ?_ 0 _ rfl; (with_reducible repeat (first | refine blk_drewN ?_ _ | refine blk_drew ?_ | refine blk_alloc ?_ _)); exact BK272.out⟩, ⟨by (with_reducible repeat (first | refine blk_drewN ?_ _ | refine blk_drew ?_ | refine blk_alloc ?_ _)); refine blk_far ?_ NB273_272.out _; (with_reducible repeat (first | refine blk_drewN ?_ _ | refine blk_drew ?_ | refine blk_alloc ?_ _)); refine blk_far ?_ NB273_272.out _; (with_reducible repeat (first | refine blk_drewN ?_ _ | refine blk_drew ?_ | refine blk_alloc ?_ _)); refine blk_far ?_ NB273_272.out _; (with_reducible repeat (first | refine blk_drewN ?_ _ | refine blk_drew ?_ | refine blk_alloc ?_ _)); exact BK273.out⟩, ⟨pB⟩⟩
end Go.Proofs.YtflcanpajgpghaaDoor.Pr
end
section
namespace Go.Proofs.YtflcanpajgpghaaDoor.Pr
open Go.RowKit Go.Proofs.YtflcanpajgpghaaDoorW.PrintWords Go.Proofs.YtflcanpajgpghaaDoorW.PrintLast Go.Proofs.YtflcanpajgpghaaDoorW.PrintMore
attribute [local go_sem] max2_int min2_int max_two min_two max_three min_three max_four min_four
def dec_Print.j0 : Nat → Int → ByteArray → Option (ByteArray)
 | 0, _, _ => none
 | k + 1, x0, x3 => (flo_Kind.f x0).bind fun t359 => (if t359 = 4 then (some (⟨#[110, 97, 110]⟩ : ByteArray)) else (if t359 = 3 then (if x3.size + 3 ≤ 9223372036854775807 then (some (x3 ++ (⟨#[105, 110, 102]⟩ : ByteArray))) else (none)) else (if t359 = 0 then (if x3.size + 1 ≤ 9223372036854775807 then (some (x3 ++ (⟨#[48]⟩ : ByteArray))) else (none)) else ((dec_shortest.f k x0).bind fun bt360 => ((dec_laid.f k bt360.1 bt360.2).bind fun t362 => (if x3.size + t362.size ≤ 9223372036854775807 then (some (x3 ++ t362)) else (none)))))))
def dec_Print.f (k : Nat) (a0 : Int) : Option (ByteArray) := if (a0 / 9223372036854775808) = 1 then (dec_Print.j0 k a0 (⟨#[45]⟩ : ByteArray)) else (dec_Print.j0 k a0 (⟨#[]⟩ : ByteArray))
theorem dec_Print.mono_l : ∀ k, (∀ y0 y1, LeO (dec_Print.j0 k y0 y1) (dec_Print.j0 (k + 1) y0 y1))
 | 0 => fun _ _ r h => by simp [dec_Print.j0] at h
 | k + 1 => by
  have ih0 := dec_Print.mono_l k
  ·intro y0 y1
   unfold dec_Print.j0
   repeat' first
   | (with_reducible exact ih0 _ _)
   | (with_reducible exact dec_laid.mono _ _ _)
   | (with_reducible exact dec_shortest.mono _ _)
   | (with_reducible exact LeO.refl _)
   | (with_reducible exact LeO.none _)
   | (with_reducible refine LeO.ite ?_ ?_)
   | (with_reducible refine LeO.bind ?_ (fun _ => ?_))
   | exact ih0 _ _
   | exact dec_laid.mono _ _ _
   | exact dec_shortest.mono _ _
   | exact LeO.none _
   | refine LeO.ite ?_ ?_
   | refine LeO.bind ?_ (fun _ => ?_)
theorem dec_Print.mono : ∀ a0 k, LeO (dec_Print.f k a0) (dec_Print.f (k + 1) a0) := by
 intro a0 k
 have ih0 := dec_Print.mono_l k
 unfold dec_Print.f
 repeat' first
   | (with_reducible exact ih0 _ _)
   | (with_reducible exact dec_laid.mono _ _ _)
   | (with_reducible exact dec_shortest.mono _ _)
   | (with_reducible exact LeO.refl _)
   | (with_reducible exact LeO.none _)
   | (with_reducible refine LeO.ite ?_ ?_)
   | (with_reducible refine LeO.bind ?_ (fun _ => ?_))
   | exact ih0 _ _
   | exact dec_laid.mono _ _ _
   | exact dec_shortest.mono _ _
   | exact LeO.none _
   | refine LeO.ite ?_ ?_
   | refine LeO.bind ?_ (fun _ => ?_)
set_option maxHeartbeats 8000000 in
set_option maxRecDepth 100000 in
theorem dec_Print.calls (k : Nat) (a0 : Int) (r : ByteArray) (w : World) (hG : PowLaid w) (h : dec_Print.f k a0 = some r) :
  Calls Tryd.prog 8 #[.int .u64 a0] w fun e w' => e = .returned (.string r) ∧ Below w.heap.size w w' := by
 have HG := am hG
 clear hG
 have HB := am (Below.refl w.heap.size w)
 have H : (if (a0 / 9223372036854775808) = 1 then (dec_Print.j0 k a0 (⟨#[45]⟩ : ByteArray)) else (dec_Print.j0 k a0 (⟨#[]⟩ : ByteArray))) = some r := h
 clear h
 have HC2 := am H
 clear H
 go_enter Tryd.func8, Tryd.ntmps8
 go_upto_if 6 with (fail)
 go_cut [3] (fun v3 wc => ∃ (kq : Nat) (x3_1 : ByteArray), v3 = .string x3_1 ∧ Aside0 (dec_Print.j0 kq a0 x3_1 = some r) ∧ Aside0 (kq ≤ k) ∧ Aside0 (Below w.heap.size w wc))
 case first =>
  have H := HC2.out
  clear HC2
  by_cases c3 : (a0 / 9223372036854775808) = 1
  ·rw [if_pos c3] at H
   have c3b0 : ((a0 / 9223372036854775808) == 1) = true := beq_iff_eq.mpr c3
   have c3b1 : ((a0 / 9223372036854775808) != 1) = false := bne_eq_false_iff_eq.mpr c3
   clear c3
   (first | rw [c3b0] | (simp only [i64_w, i32_w]; rw [c3b0]) | rw [c3b1] | (simp only [i64_w, i32_w]; rw [c3b1]) | skip)
   have H' := am H
   clear H
   go_wp2
   go_meet
   case rel => exact ⟨_, ((⟨#[45]⟩ : ByteArray)), (by first | rfl | (simp; done) | (simp [*]; done)), H', ⟨by first | omega | exact Nat.le_refl _⟩, ⟨pB⟩⟩
  ·rw [if_neg c3] at H
   have c3b0 : ((a0 / 9223372036854775808) == 1) = false := beq_eq_false_iff_ne.mpr c3
   have c3b1 : ((a0 / 9223372036854775808) != 1) = true := bne_iff_ne.mpr c3
   (first | rw [c3b0] | (simp only [i64_w, i32_w]; rw [c3b0]) | rw [c3b1] | (simp only [i64_w, i32_w]; rw [c3b1]) | skip)
   have H' := am H
   clear H
   go_wp2
   go_meet
   case rel => exact ⟨_, ((⟨#[]⟩ : ByteArray)), (by first | rfl | (simp; done) | (simp [*]; done)), H', ⟨by first | omega | exact Nat.le_refl _⟩, ⟨pB⟩⟩
 case rest =>
  clear HC2
  try clear p2
  try clear c3
  try clear c3b0
  try clear c3b1
  obtain ⟨kq, x3_1, rfl, HA, HJ1, HB⟩ := hcut
  cases kq with
  | zero => exact absurd HA.out (by simp [dec_Print.j0])
  | succ kj1 =>
   have H := HA.out
   clear HA
   simp only [dec_Print.j0] at H
   replace H := Option.bind_eq_some_iff.mp H
   obtain ⟨t359, A40, H⟩ := H
   try dsimp only at H
   have A4 := am A40
   clear A40
   by_cases c5 : t359 = 4
   ·rw [if_pos c5] at H
    have c5b0 : (t359 == 4) = true := beq_iff_eq.mpr c5
    have c5b1 : (t359 != 4) = false := bne_eq_false_iff_eq.mpr c5
    clear c5
    obtain rfl := Option.some.inj H
    go_wp2_with (first | ((with_reducible refine gate_callee (f := 14) rfl ?_); refine goesL_ (some 8) rfl rfl Tryd.func14 (by kernel_rfl) rfl #[.int .u64 a0] rfl pM ?_; (with_reducible refine (flo_Kind.calls a0 t359 _ A4.out).mono ?_); rintro e w' ⟨rfl, ⟨nd, rfl⟩⟩; refine ⟨_, rfl, ?_⟩))
    go_ret
    exact ⟨pE, pB⟩
   ·rw [if_neg c5] at H
    have c5b0 : (t359 == 4) = false := beq_eq_false_iff_ne.mpr c5
    have c5b1 : (t359 != 4) = true := bne_iff_ne.mpr c5
    by_cases c6 : t359 = 3
    ·rw [if_pos c6] at H
     have c6b0 : (t359 == 3) = true := beq_iff_eq.mpr c6
     have c6b1 : (t359 != 3) = false := bne_eq_false_iff_eq.mpr c6
     clear c6
     by_cases c7 : x3_1.size + 3 ≤ 9223372036854775807
     ·rw [if_pos c7] at H
      have c7b0 := eq_true c7
      have c7b1 : decide (x3_1.size + 3 ≤ 9223372036854775807) = true := decide_eq_true c7
      try have c7b2 : (9223372036854775807 < x3_1.size + 3) = False := eq_false (Nat.not_lt.2 c7)
      obtain rfl := Option.some.inj H
      go_wp2_with (first | ((with_reducible refine gate_callee (f := 14) rfl ?_); refine goesL_ (some 8) rfl rfl Tryd.func14 (by kernel_rfl) rfl #[.int .u64 a0] rfl pM ?_; (with_reducible refine (flo_Kind.calls a0 t359 _ A4.out).mono ?_); rintro e w' ⟨rfl, ⟨nd, rfl⟩⟩; refine ⟨_, rfl, ?_⟩))
      go_ret
      exact ⟨pE, pB⟩
     ·rw [if_neg c7] at H
      exact absurd H (by simp)
    ·rw [if_neg c6] at H
     have c6b0 : (t359 == 3) = false := beq_eq_false_iff_ne.mpr c6
     have c6b1 : (t359 != 3) = true := bne_iff_ne.mpr c6
     by_cases c8 : t359 = 0
     ·rw [if_pos c8] at H
      have c8b0 : (t359 == 0) = true := beq_iff_eq.mpr c8
      have c8b1 : (t359 != 0) = false := bne_eq_false_iff_eq.mpr c8
      clear c8
      by_cases c9 : x3_1.size + 1 ≤ 9223372036854775807
      ·rw [if_pos c9] at H
       have c9b0 := eq_true c9
       have c9b1 : decide (x3_1.size + 1 ≤ 9223372036854775807) = true := decide_eq_true c9
       try have c9b2 : (9223372036854775807 < x3_1.size + 1) = False := eq_false (Nat.not_lt.2 c9)
       obtain rfl := Option.some.inj H
       go_wp2_with (first | ((with_reducible refine gate_callee (f := 14) rfl ?_); refine goesL_ (some 8) rfl rfl Tryd.func14 (by kernel_rfl) rfl #[.int .u64 a0] rfl pM ?_; (with_reducible refine (flo_Kind.calls a0 t359 _ A4.out).mono ?_); rintro e w' ⟨rfl, ⟨nd, rfl⟩⟩; refine ⟨_, rfl, ?_⟩))
       go_ret
       exact ⟨pE, pB⟩
      ·rw [if_neg c9] at H
       exact absurd H (by simp)
     ·rw [if_neg c8] at H
      have c8b0 : (t359 == 0) = false := beq_eq_false_iff_ne.mpr c8
      have c8b1 : (t359 != 0) = true := bne_iff_ne.mpr c8
      replace H := Option.bind_eq_some_iff.mp H
      obtain ⟨⟨t360, t361⟩, A100, H⟩ := H
      try dsimp only at H
      have A10 := am A100
      clear A100
      replace H := Option.bind_eq_some_iff.mp H
      obtain ⟨t362, A110, H⟩ := H
      try dsimp only at H
      have A11 := am A110
      clear A110
      by_cases c12 : x3_1.size + t362.size ≤ 9223372036854775807
      ·rw [if_pos c12] at H
       have c12b0 := eq_true c12
       have c12b1 : decide (x3_1.size + t362.size ≤ 9223372036854775807) = true := decide_eq_true c12
       try have c12b2 : (9223372036854775807 < x3_1.size + t362.size) = False := eq_false (Nat.not_lt.2 c12)
       obtain rfl := Option.some.inj H
       go_wp2_with (first | ((with_reducible refine gate_callee (f := 14) rfl ?_); refine goesL_ (some 8) rfl rfl Tryd.func14 (by kernel_rfl) rfl #[.int .u64 a0] rfl pM ?_; (with_reducible refine (flo_Kind.calls a0 t359 _ A4.out).mono ?_); rintro e w' ⟨rfl, ⟨nd, rfl⟩⟩; refine ⟨_, rfl, ?_⟩) | ((with_reducible refine gate_callee (f := 16) rfl ?_); refine goesL_ (some 21) rfl rfl Tryd.func16 (by kernel_rfl) rfl #[.int .u64 a0] rfl pM ?_; (with_reducible refine (dec_shortest.calls kj1 a0 t360 t361 _ A10.out).mono ?_); rintro e w13 ⟨rfl, hb⟩; refine ⟨_, rfl, ?_⟩; replace HB := am (below_step pB hb); (try clear hb)) | ((with_reducible refine gate_callee (f := 15) rfl ?_); refine goesL_ (some 24) rfl rfl Tryd.func15 (by kernel_rfl) rfl #[.string t360, .int .i64 t361] rfl pM ?_; (with_reducible refine (dec_laid.calls kj1 t360 t361 t362 _ ?side1 A11.out).mono ?_); (case side1 => exact pG); rintro e w14 ⟨rfl, hb⟩; refine ⟨_, rfl, ?_⟩; replace HB := am (below_step pB hb); (try clear hb)))
       go_ret
       exact ⟨pE, pB⟩
      ·rw [if_neg c12] at H
       exact absurd H (by simp)
def dec_digits.l0 : Nat → ByteArray → Int → Int → Option (Int)
 | 0, _, _, _ => none
 | k + 1, x0, x5, x6 => if x6 < x5 then (if 0 ≤ x6 then (if x6 < (x0.size : Int) then (if (bt x0 x6) < 48 then (some x6) else (if (bt x0 x6) > 57 then (some x6) else (dec_digits.l0 k x0 x5 (wrap64 (x6 + 1))))) else (none)) else (none)) else (some (x0.size : Int))
def dec_digits.f (k : Nat) (a0 : ByteArray) : Option (Int) := dec_digits.l0 k a0 (a0.size : Int) 0
theorem dec_digits.mono_l : ∀ k, (∀ y0 y1 y2, LeO (dec_digits.l0 k y0 y1 y2) (dec_digits.l0 (k + 1) y0 y1 y2))
 | 0 => fun _ _ _ r h => by simp [dec_digits.l0] at h
 | k + 1 => by
  have ih0 := dec_digits.mono_l k
  ·intro y0 y1 y2
   unfold dec_digits.l0
   repeat' first
   | (with_reducible exact ih0 _ _ _)
   | (with_reducible exact LeO.refl _)
   | (with_reducible exact LeO.none _)
   | (with_reducible refine LeO.ite ?_ ?_)
   | (with_reducible refine LeO.bind ?_ (fun _ => ?_))
   | exact ih0 _ _ _
   | exact LeO.none _
   | refine LeO.ite ?_ ?_
   | refine LeO.bind ?_ (fun _ => ?_)
theorem dec_digits.mono : ∀ a0 k, LeO (dec_digits.f k a0) (dec_digits.f (k + 1) a0) := by
 intro a0 k
 have ih0 := dec_digits.mono_l k
 unfold dec_digits.f
 repeat' first
   | (with_reducible exact ih0 _ _ _)
   | (with_reducible exact LeO.refl _)
   | (with_reducible exact LeO.none _)
   | (with_reducible refine LeO.ite ?_ ?_)
   | (with_reducible refine LeO.bind ?_ (fun _ => ?_))
   | exact ih0 _ _ _
   | exact LeO.none _
   | refine LeO.ite ?_ ?_
   | refine LeO.bind ?_ (fun _ => ?_)
set_option maxHeartbeats 8000000 in
set_option maxRecDepth 100000 in
theorem dec_digits.calls (k : Nat) (a0 : ByteArray) (r : Int) (w : World) (h : dec_digits.f k a0 = some r) :
  Calls Tryd.prog 42 #[.string a0] w fun e w' => e = .returned (.int .i64 r) ∧ Drawn0 w w' := by
 have H : (dec_digits.l0 k a0 (a0.size : Int) 0) = some r := h
 clear h
 have H' := am H
 clear H
 go_enter Tryd.func42, Tryd.ntmps42
 go_wp2
 go_loopg [6] k (fun kq v6 w' => ∃ (x6_1 : Int), v6 = .int .i64 x6_1 ∧ Aside0 (dec_digits.l0 kq a0 (a0.size : Int) x6_1 = some r) ∧ Aside0 (kq ≤ k) ∧ Drawn0 w w')
 case atStart => exact ⟨(0), (by first | rfl | (simp; done) | (simp [*]; done)), H', ⟨Nat.le_refl _⟩, by repeat (first | exact Drawn0.refl _ | apply Drawn0.step)⟩
 case round =>
  clear H'
  obtain ⟨x6_1, rfl, HA, HK1, ⟨m1, rfl⟩⟩ := hrel
  cases gk with
  | zero => exact absurd HA.out (by simp [dec_digits.l0])
  | succ k1 =>
   have H := HA.out
   clear HA
   simp only [dec_digits.l0] at H
   by_cases c2 : x6_1 < (a0.size : Int)
   ·rw [if_pos c2] at H
    have c2b0 : decide (x6_1 < (a0.size : Int)) = true := decide_eq_true c2
    clear c2
    by_cases c3 : 0 ≤ x6_1
    ·rw [if_pos c3] at H
     have c3b0 : decide (0 ≤ x6_1) = true := decide_eq_true c3
     clear c3
     by_cases c4 : x6_1 < (a0.size : Int)
     ·rw [if_pos c4] at H
      have c4b0 : decide (x6_1 < (a0.size : Int)) = true := decide_eq_true c4
      clear c4
      by_cases c6 : (bt a0 x6_1) < 48
      ·rw [if_pos c6] at H
       have c6b0 : decide ((bt a0 x6_1) < 48) = true := decide_eq_true c6
       clear c6
       obtain rfl := Option.some.inj H
       have p5 : 0 ≤ (x6_1 : Int) := pD
       have q5 : x6_1 < (a0.size : Int) := pD
       have hx5 := bt_at a0 x6_1
       replace p5 := eq_true p5
       replace q5 := eq_true q5
       go_wp2
       go_ret
       exact ⟨by first | rfl | (simp; done) | (simp [*]; done), by repeat (first | exact Drawn0.refl _ | apply Drawn0.step)⟩
      ·rw [if_neg c6] at H
       have c6b0 : decide ((bt a0 x6_1) < 48) = false := decide_eq_false c6
       clear c6
       by_cases c8 : (bt a0 x6_1) > 57
       ·rw [if_pos c8] at H
        have c8b0 : decide (57 < (bt a0 x6_1)) = true := decide_eq_true c8
        clear c8
        obtain rfl := Option.some.inj H
        have p5 : 0 ≤ (x6_1 : Int) := pD
        have q5 : x6_1 < (a0.size : Int) := pD
        have hx5 := bt_at a0 x6_1
        replace p5 := eq_true p5
        replace q5 := eq_true q5
        have p7 : 0 ≤ (x6_1 : Int) := pD
        have q7 : x6_1 < (a0.size : Int) := pD
        have hx7 := bt_at a0 x6_1
        replace p7 := eq_true p7
        replace q7 := eq_true q7
        go_wp2
        go_ret
        exact ⟨by first | rfl | (simp; done) | (simp [*]; done), by repeat (first | exact Drawn0.refl _ | apply Drawn0.step)⟩
       ·rw [if_neg c8] at H
        have c8b0 : decide (57 < (bt a0 x6_1)) = false := decide_eq_false c8
        clear c8
        have H' := am H
        clear H
        have p5 : 0 ≤ (x6_1 : Int) := pD
        have q5 : x6_1 < (a0.size : Int) := pD
        have hx5 := bt_at a0 x6_1
        replace p5 := eq_true p5
        replace q5 := eq_true q5
        have p7 : 0 ≤ (x6_1 : Int) := pD
        have q7 : x6_1 < (a0.size : Int) := pD
        have hx7 := bt_at a0 x6_1
        replace p7 := eq_true p7
        replace q7 := eq_true q7
        go_wp2
        go_roundg k1
        case measure => have := HK1.out; omega
        case rel => exact ⟨(wrap64 (x6_1 + 1)), (by first | rfl | (simp; done) | (simp [*]; done)), H', ⟨by have := HK1.out; omega⟩, by repeat (first | exact Drawn0.refl _ | apply Drawn0.step)⟩
     ·rw [if_neg c4] at H
      exact absurd H (by simp)
    ·rw [if_neg c3] at H
     exact absurd H (by simp)
   ·rw [if_neg c2] at H
    have c2b0 : decide (x6_1 < (a0.size : Int)) = false := decide_eq_false c2
    clear c2
    obtain rfl := Option.some.inj H
    go_wp2
    go_ret
    exact ⟨by first | rfl | (simp; done) | (simp [*]; done), by repeat (first | exact Drawn0.refl _ | apply Drawn0.step)⟩
def stringslite_HasPrefix.f (a0 : ByteArray) (a1 : ByteArray) : Option (Bool) := if (a0.size : Int) ≥ (a1.size : Int) then (if 0 ≤ (a1.size : Int) then (if (a1.size : Int) ≤ (a0.size : Int) then (some ((a0.extract 0 ((a1.size : Int) : Int).toNat).toList == a1.toList)) else (none)) else (none)) else (some false)
set_option maxHeartbeats 8000000 in
set_option maxRecDepth 100000 in
theorem stringslite_HasPrefix.calls (a0 : ByteArray) (a1 : ByteArray) (r : Bool) (w : World) (h : stringslite_HasPrefix.f a0 a1 = some r) :
  Calls Tryd.prog 68 #[.string a0, .string a1] w fun e w' => e = .returned (.bool r) ∧ Drawn0 w w' := by
 have H : (if (a0.size : Int) ≥ (a1.size : Int) then (if 0 ≤ (a1.size : Int) then (if (a1.size : Int) ≤ (a0.size : Int) then (some ((a0.extract 0 ((a1.size : Int) : Int).toNat).toList == a1.toList)) else (none)) else (none)) else (some false)) = some r := h
 clear h
 by_cases c3 : (a0.size : Int) ≥ (a1.size : Int)
 ·rw [if_pos c3] at H
  have c3b0 : decide ((a1.size : Int) ≤ (a0.size : Int)) = true := decide_eq_true c3
  have c3b1 : decide (a1.size ≤ a0.size) = true := decide_eq_true (Int.ofNat_le.mp c3)
  clear c3
  by_cases c4 : 0 ≤ (a1.size : Int)
  ·rw [if_pos c4] at H
   have c4b0 := eq_true c4
   have c4b1 : decide (0 ≤ (a1.size : Int)) = true := decide_eq_true c4
   clear c4
   by_cases c5 : (a1.size : Int) ≤ (a0.size : Int)
   ·rw [if_pos c5] at H
    have c5b0 := eq_true c5
    have c5b1 : decide ((a1.size : Int) ≤ (a0.size : Int)) = true := decide_eq_true c5
    clear c5
    obtain ⟨ji6, hji6⟩ : ∃ j_ : ByteArray, (a0.extract 0 ((a1.size : Int) : Int).toNat) = j_ := ⟨_, rfl⟩
    replace H : (some ((ji6).toList == a1.toList)) = some r := by first | (rw [hji6] at H; exact H) | (simp only [hji6] at H ⊢; exact H) | exact H
    obtain rfl := Option.some.inj H
    go_enter Tryd.func68, Tryd.ntmps68
    go_wp2
    go_ret
    exact ⟨by first | rfl | (simp; done) | (simp only [← hji6] <;> (first | rfl | simp)) | (simp [*]; done), by repeat (first | exact Drawn0.refl _ | apply Drawn0.step)⟩
   ·rw [if_neg c5] at H
    exact absurd H (by simp)
  ·rw [if_neg c4] at H
   exact absurd H (by simp)
 ·rw [if_neg c3] at H
  have c3b0 : decide ((a1.size : Int) ≤ (a0.size : Int)) = false := decide_eq_false c3
  have c3b1 : decide (a1.size ≤ a0.size) = false := decide_eq_false (fun h => c3 (Int.ofNat_le.mpr h))
  clear c3
  obtain rfl := Option.some.inj H
  go_enter Tryd.func68, Tryd.ntmps68
  go_wp2
  go_ret
  exact ⟨by first | rfl | (simp; done) | (simp [*]; done), by repeat (first | exact Drawn0.refl _ | apply Drawn0.step)⟩
def strings_HasPrefix.f (a0 : ByteArray) (a1 : ByteArray) : Option (Bool) := (stringslite_HasPrefix.f a0 a1).bind fun t363 => (some t363)
set_option maxHeartbeats 8000000 in
set_option maxRecDepth 100000 in
theorem strings_HasPrefix.calls (a0 : ByteArray) (a1 : ByteArray) (r : Bool) (w : World) (h : strings_HasPrefix.f a0 a1 = some r) :
  Calls Tryd.prog 43 #[.string a0, .string a1] w fun e w' => e = .returned (.bool r) ∧ Drawn0 w w' := by
 have H : ((stringslite_HasPrefix.f a0 a1).bind fun t363 => (some t363)) = some r := h
 clear h
 replace H := Option.bind_eq_some_iff.mp H
 obtain ⟨t363, A30, H⟩ := H
 try dsimp only at H
 have A3 := am A30
 clear A30
 obtain rfl := Option.some.inj H
 go_enter Tryd.func43, Tryd.ntmps43
 go_wp2_with (first | ((with_reducible refine gate_callee (f := 68) rfl ?_); refine goesL_ (some 7) rfl rfl Tryd.func68 (by kernel_rfl) rfl #[.string a0, .string a1] rfl pM ?_; (with_reducible refine (stringslite_HasPrefix.calls a0 a1 t363 _ A3.out).mono ?_); rintro e w' ⟨rfl, ⟨nd, rfl⟩⟩; refine ⟨_, rfl, ?_⟩))
 go_ret
 exact ⟨by first | rfl | (simp; done) | (simp [*]; done), by repeat (first | exact Drawn0.refl _ | apply Drawn0.step)⟩
end Go.Proofs.YtflcanpajgpghaaDoor.Pr
end
