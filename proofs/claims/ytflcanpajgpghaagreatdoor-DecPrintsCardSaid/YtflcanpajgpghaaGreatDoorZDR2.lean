/- A part of the proof of the law that RowDecPrints shows: lemmas, and contracts of the calls that it reaches. -/
import Derived.Test.YtflcanpajgpghaaGreatDoorProg
import Derived.Below
import Derived.Deep.Draws
import Derived.Deep.AppendLies
import Derived.Maps.AppendAt
import Derived.OwnWalk
import Derived.Laws.BytesArg
import Derived.Laws.MakeOwn
import Derived.Laws.OwnMore
import Derived.Deep.OwnRows
import Derived.Tactics
import Derived.Lib.ConvBytes
import Derived.Laws.Slices
import Derived.WalkKit
import Derived.KernelRfl
import Derived.RowKit3
import Derived.Deep.LoopGhost
import Derived.Deep.QuietTactic
import Derived.BigQuiet
import Derived.WideLaws
import Derived.Deep.DeepCutAuto
import Derived.Deep.CutBlock
import Derived.Deep.RegionHeld3
import Derived.Laws.Rows
import Derived.Lib.AppendStr
import Derived.ArgAppend
import Derived.Laws.IdiomCopy
import Derived.OrdersHeld
import Derived.Laws.BitsLemmas
import Derived.RowKit
import Derived.Test.YtflcanpajgpghaaGreatDoorZDR0
import Derived.Test.YtflcanpajgpghaaGreatDoorZDR1
set_option linter.unusedVariables false
set_option linter.unusedSimpArgs false
section
namespace Go.Proofs.YtflcanpajgpghaaGreatDoor.Pr
open Go.RowKit Go.Proofs.YtflcanpajgpghaaGreatDoorW.PrintWords Go.Proofs.YtflcanpajgpghaaGreatDoorW.PrintLast Go.Proofs.YtflcanpajgpghaaGreatDoorW.PrintMore
attribute [local go_sem] zXe zXc zXn zXm zQV zQU zXd zXb
def b_minus.l0 : Nat → List Int → List Int → Int → List Int → Int → Int → Option (List Int)
 | 0,_,_,_,_,_,_ => none
 | k + 1,x1,x5,x6,x14,x15,x16 => if x16 < x15 then (if 0 ≤ x16 then (if x16 < (x14.length : Int) then (if x16 < (x1.length : Int) then (if x5.length < 35184372088832 then (b_minus.l0 k x1 (x5 ++ [(IntKind.u64.wrap ((IntKind.u64.wrap (rd x14 x16)) - (IntKind.u64.wrap (x6 + (IntKind.u64.wrap (rd x1 x16)))))) % 4294967296]) ((IntKind.u64.wrap ((IntKind.u64.wrap (rd x14 x16)) - (IntKind.u64.wrap (x6 + (IntKind.u64.wrap (rd x1 x16)))))) / 9223372036854775808) x14 x15 (wrap64 (x16 + 1))) else (none)) else (if x5.length < 35184372088832 then (b_minus.l0 k x1 (x5 ++ [(IntKind.u64.wrap ((IntKind.u64.wrap (rd x14 x16)) - x6)) % 4294967296]) ((IntKind.u64.wrap ((IntKind.u64.wrap (rd x14 x16)) - x6)) / 9223372036854775808) x14 x15 (wrap64 (x16 + 1))) else (none))) else (none)) else (none)) else ((b_trim.f k x5).bind fun t194 => (some t194))
def b_minus.f (k : Nat) (l0 : List Int) (l1 : List Int) : Option (List Int) := if 0 ≤ (l0.length : Int) then (if ((l0.length : Int) : Int).toNat ≤ 70368744177664 then (b_minus.l0 k l1 (List.replicate 0 0) 0 l0 (l0.length : Int) 0) else (none)) else (none)
theorem b_minus.mono_l : ∀ k,(∀ y0 y1 y2 y3 y4 y5,LeO (b_minus.l0 k y0 y1 y2 y3 y4 y5) (b_minus.l0 (k + 1) y0 y1 y2 y3 y4 y5))
 | 0 => fun _ _ _ _ _ _ r h => by simp [b_minus.l0] at h
 | k + 1 => by
  have ih0 := b_minus.mono_l k
  ·intro y0 y1 y2 y3 y4 y5;unfold b_minus.l0;repeat' first
   | (with_reducible exact ih0 _ _ _ _ _ _)
   | (with_reducible exact b_trim.mono _ _)
   | (with_reducible exact LeO.refl _)
   | (with_reducible exact LeO.none _)
   | (with_reducible refine LeO.ite ?_ ?_)
   | (with_reducible refine LeO.bind ?_ (fun _ => ?_))
   | exact ih0 _ _ _ _ _ _
   | exact b_trim.mono _ _
   | exact LeO.none _
   | refine LeO.ite ?_ ?_
   | refine LeO.bind ?_ (fun _ => ?_)
theorem b_minus.mono : ∀ a0 a1 k,LeO (b_minus.f k a0 a1) (b_minus.f (k + 1) a0 a1) := by
 intro a0 a1 k;have ih0 := b_minus.mono_l k;unfold b_minus.f
 repeat' first
   | (with_reducible exact ih0 _ _ _ _ _ _)
   | (with_reducible exact b_trim.mono _ _)
   | (with_reducible exact LeO.refl _)
   | (with_reducible exact LeO.none _)
   | (with_reducible refine LeO.ite ?_ ?_)
   | (with_reducible refine LeO.bind ?_ (fun _ => ?_))
   | exact ih0 _ _ _ _ _ _
   | exact b_trim.mono _ _
   | exact LeO.none _
   | refine LeO.ite ?_ ?_
   | refine LeO.bind ?_ (fun _ => ?_)
set_option maxHeartbeats 8000000 in
set_option maxRecDepth 100000 in
theorem b_minus.calls (k : Nat) (A0 : Option Addr) (c0 : Nat) (l0 : List Int) (A1 : Option Addr) (c1 : Nat) (l1 : List Int) (r : List Int) (w : World) (hr0 : Kd.C (Kd.int .u32) w A0 l0.length l0) (hc0 : l0.length ≤ c0) (hr1 : Kd.C (Kd.int .u32) w A1 l1.length l1) (hc1 : l1.length ≤ c1) (h : b_minus.f k l0 l1 = some r) :
  Calls Tryz.prog 46 #[.slice A0 l0.length c0,.slice A1 l1.length c1] w fun e w' => ∃ v0_ : Value,e = .returned (v0_) ∧ Kd.V (Kd.int .u32) 52 w' w.heap.size (fun k_ => (w.heap.size ≤ k_)) v0_ r ∧ Below w.heap.size w w' := by
 have HR0 := am hr0;have HC0 := am hc0;clear hr0 hc0;have HR1 := am hr1;have HC1 := am hc1;clear hr1 hc1;have HB := am (Below.refl w.heap.size w);have H : (if 0 ≤ (l0.length : Int) then (if ((l0.length : Int) : Int).toNat ≤ 70368744177664 then (b_minus.l0 k l1 (List.replicate 0 0) 0 l0 (l0.length : Int) 0) else (none)) else (none)) = some r := h;clear h;by_cases c3 : 0 ≤ (l0.length : Int)
 ·rw [if_pos c3] at H;have c3b0 := eq_true c3;have c3b1 : decide (0 ≤ (l0.length : Int)) = true := decide_eq_true c3;clear c3;by_cases c4 : ((l0.length : Int) : Int).toNat ≤ 70368744177664
  ·rw [if_pos c4] at H;have c4b0 := eq_true c4;have c4b1 : decide (((l0.length : Int) : Int).toNat ≤ 70368744177664) = true := decide_eq_true c4;clear c4;obtain ⟨y183,hy183⟩ : ∃ y_ : List Int,y_ = (List.replicate 0 0) := ⟨_,rfl⟩;(replace H : (b_minus.l0 k l1 y183 0 l0 (l0.length : Int) 0) = some r := by first | (rw [hy183];with_reducible exact H) | (have H2_ := (Option.bind_some _ _).symm.trans H;rw [hy183];with_reducible exact H2_) | (have H2_ := (Option.bind_some _ _).symm.trans H;with_reducible exact H2_) | with_reducible exact H | (rw [hy183];exact H) | exact H);have Ny183 := am hy183;clear hy183;have H' := am H;clear H;go_enter Tryz.func46,Tryz.ntmps46;go_wp2_with (first | ((with_reducible refine zQE (N := 13) rfl ?_);refine zKw (Kd.int .u32) _ 52 rfl (N := 13) rfl 50 _ _ rfl 0 (l0.length : Int) rfl rfl Tryz.underlying50 (.int .u32 0) 4 zXV rfl (by decide) (by omega) 0 (ok := fun _ => True) (okp := fun _ => True) rfl (fun _ hk => hk) trivial (by omega) pD (Nat.le_trans (Nat.mul_le_mul_right _ (pD : (l0.length : Int).toNat ≤ 70368744177664)) (by omega)) (Below.refl _ _) (Nat.le_refl _) ?_;intro v184 w5 ho6 hb hg_ hnew_;clear hg_ hnew_;(first | rw [← Ny183.out] at ho6 | (simp only [Int.reduceToNat] at ho6;rw [← Ny183.out] at ho6));have HO185 := am (Kd.zQr (Kd.zXv (M := fun k_ => (w.heap.size ≤ k_)) ho6 (zQa pB) (fun k_ h_ => h_)) (zQa pB));replace HB := bS hb;clear hb ho6))
   go_loopg [5,6,16] k (fun kq v5 v6 v16 w' => ∃ (x5_1 : List Int) (x6_1 : Int) (x16_1 : Int),v6 = .int .u64 x6_1 ∧ v16 = .int .i64 x16_1 ∧ Aside0 (b_minus.l0 kq l1 x5_1 x6_1 l0 (l0.length : Int) x16_1 = some r) ∧ Aside0 (kq ≤ k) ∧ Aside0 (Kd.R (Kd.int .u32) 52 w' w.heap.size (fun k_ => (w.heap.size ≤ k_)) v5 x5_1) ∧ Aside0 (Below w.heap.size w w'))
   case atStart => exact ⟨(y183),(0),(0),pS,pS,H',⟨Nat.le_refl _⟩,⟨by (with_reducible repeat (first | apply Kd.zQo | apply Kd.zQj | apply Kd.zQs));exact Kd.zQu HO185.out (fun _ hk => hk.1)⟩,⟨pB⟩⟩
   case round =>
    clear H';(try clear c1);(try clear p2);(try clear c3);(try clear c3b0);(try clear c3b1);(try clear c4);(try clear c4b0);(try clear c4b1);obtain ⟨x5_1,x6_1,x16_1,rfl,rfl,HA,HK1,HO_5,HB⟩ := hrel
    cases gk with
    | zero => exact absurd HA.out (by simp [b_minus.l0])
    | succ k1 =>
     have H := HA.out;clear HA;simp only [b_minus.l0] at H;by_cases c7 : x16_1 < (l0.length : Int)
     ·rw [if_pos c7] at H;have c7b0 : decide (x16_1 < (l0.length : Int)) = true := decide_eq_true c7;clear c7;by_cases c8 : 0 ≤ x16_1
      ·rw [if_pos c8] at H;have c8b0 : decide (0 ≤ x16_1) = true := decide_eq_true c8;clear c8;by_cases c9 : x16_1 < (l0.length : Int)
       ·rw [if_pos c9] at H;have c9b0 : decide (x16_1 < (l0.length : Int)) = true := decide_eq_true c9;clear c9;by_cases c10 : x16_1 < (l1.length : Int)
        ·rw [if_pos c10] at H;have c10b0 : decide (x16_1 < (l1.length : Int)) = true := decide_eq_true c10;clear c10;by_cases c11 : x5_1.length < 35184372088832
         ·rw [if_pos c11] at H;have LMc11 := am c11;clear c11;obtain ⟨y188,hy188⟩ : ∃ y_ : List Int,y_ = (x5_1 ++ [(IntKind.u64.wrap ((IntKind.u64.wrap (rd l0 x16_1)) - (IntKind.u64.wrap (x6_1 + (IntKind.u64.wrap (rd l1 x16_1)))))) % 4294967296]) := ⟨_,rfl⟩;(replace H : (b_minus.l0 k1 l1 y188 ((IntKind.u64.wrap ((IntKind.u64.wrap (rd l0 x16_1)) - (IntKind.u64.wrap (x6_1 + (IntKind.u64.wrap (rd l1 x16_1)))))) / 9223372036854775808) l0 (l0.length : Int) (wrap64 (x16_1 + 1))) = some r := by first | (rw [hy188];with_reducible exact H) | (have H2_ := (Option.bind_some _ _).symm.trans H;rw [hy188];with_reducible exact H2_) | (have H2_ := (Option.bind_some _ _).symm.trans H;with_reducible exact H2_) | with_reducible exact H | (rw [hy188];exact H) | exact H);have Ny188 := am hy188;clear hy188;have H' := am H;clear H;have p186 : 0 ≤ (x16_1 : Int) := pD;have q186 : x16_1 < (l0.length : Int) := pD;obtain ⟨ad186,e186,hx186_0⟩ := Kd.zXg HR0.out x16_1 p186 q186
          cases e186
          replace hx186_0 := (HB.out.cell (World.block_lt_of_cell? w _ hx186_0)).trans hx186_0;replace p186 := eq_true p186;replace q186 := eq_true q186;have p187 : 0 ≤ (x16_1 : Int) := pD;have q187 : x16_1 < (l1.length : Int) := pD;obtain ⟨ad187,e187,hx187_0⟩ := Kd.zXg HR1.out x16_1 p187 q187
          cases e187
          replace hx187_0 := (HB.out.cell (World.block_lt_of_cell? w _ hx187_0)).trans hx187_0;replace p187 := eq_true p187;replace q187 := eq_true q187;go_wp2_with (first | ((with_reducible refine zQz (b := .append) (xs := #[.tmp 37,.tmp 40]) rfl ?_);at_builtin;refine Kd.zQW (Kd.int .u32) (w0 := w) w.heap.size rfl (.tmp 37) (.tmp 40) 50 52 (.int .u32 0) 4 rfl Tryz.underlying50 zXV rfl (by decide) (by omega) u5 x5_1 ((IntKind.u64.wrap ((IntKind.u64.wrap (rd l0 x16_1)) - (IntKind.u64.wrap (x6_1 + (IntKind.u64.wrap (rd l1 x16_1)))))) % 4294967296) [.int .u32 ((IntKind.u64.wrap ((IntKind.u64.wrap (rd l0 x16_1)) - (IntKind.u64.wrap (x6_1 + (IntKind.u64.wrap (rd l1 x16_1)))))) % 4294967296)] (fun k_ => (w.heap.size ≤ k_)) (fun _ => False) rfl rfl ?aP (fun _ hk => hk.elim) ?aF ?aO ?aB ?aS ?aL ?_;(case aP => exact rfl);(case aB => exact pB);(case aF => exact (fun k_ hk => (Nat.le_trans (zQa pB) hk)));(case aO => exact (pR HO_5.out));(case aS => exact (zQa pB));(case aL => have := LMc11.out;omega);intro v189 w12 ho hb hg hat;rw [← Ny188.out] at ho;replace HB := am (hb);have HO190 := am (ho);clear HO_5;clear ho hb hg hat))
          go_roundg k1
          case measure => have := HK1.out;omega
          case rel => exact ⟨(y188),((IntKind.u64.wrap ((IntKind.u64.wrap (rd l0 x16_1)) - (IntKind.u64.wrap (x6_1 + (IntKind.u64.wrap (rd l1 x16_1)))))) / 9223372036854775808),(wrap64 (x16_1 + 1)),pS,pS,H',⟨by have := HK1.out;omega⟩,⟨by (with_reducible repeat (first | apply Kd.zQo | apply Kd.zQj | apply Kd.zQs));exact HO190.out⟩,⟨pB⟩⟩
         ·rw [if_neg c11] at H
          cases H
        ·rw [if_neg c10] at H;have c10b0 : decide (x16_1 < (l1.length : Int)) = false := decide_eq_false c10;clear c10;by_cases c13 : x5_1.length < 35184372088832
         ·rw [if_pos c13] at H;have LMc13 := am c13;clear c13;obtain ⟨y191,hy191⟩ : ∃ y_ : List Int,y_ = (x5_1 ++ [(IntKind.u64.wrap ((IntKind.u64.wrap (rd l0 x16_1)) - x6_1)) % 4294967296]) := ⟨_,rfl⟩;(replace H : (b_minus.l0 k1 l1 y191 ((IntKind.u64.wrap ((IntKind.u64.wrap (rd l0 x16_1)) - x6_1)) / 9223372036854775808) l0 (l0.length : Int) (wrap64 (x16_1 + 1))) = some r := by first | (rw [hy191];with_reducible exact H) | (have H2_ := (Option.bind_some _ _).symm.trans H;rw [hy191];with_reducible exact H2_) | (have H2_ := (Option.bind_some _ _).symm.trans H;with_reducible exact H2_) | with_reducible exact H | (rw [hy191];exact H) | exact H);have Ny191 := am hy191;clear hy191;have H' := am H;clear H;have p186 : 0 ≤ (x16_1 : Int) := pD;have q186 : x16_1 < (l0.length : Int) := pD;obtain ⟨ad186,e186,hx186_0⟩ := Kd.zXg HR0.out x16_1 p186 q186
          cases e186
          replace hx186_0 := (HB.out.cell (World.block_lt_of_cell? w _ hx186_0)).trans hx186_0;replace p186 := eq_true p186;replace q186 := eq_true q186;go_wp2_with (first | ((with_reducible refine zQz (b := .append) (xs := #[.tmp 37,.tmp 40]) rfl ?_);at_builtin;refine Kd.zQW (Kd.int .u32) (w0 := w) w.heap.size rfl (.tmp 37) (.tmp 40) 50 52 (.int .u32 0) 4 rfl Tryz.underlying50 zXV rfl (by decide) (by omega) u5 x5_1 ((IntKind.u64.wrap ((IntKind.u64.wrap (rd l0 x16_1)) - x6_1)) % 4294967296) [.int .u32 ((IntKind.u64.wrap ((IntKind.u64.wrap (rd l0 x16_1)) - x6_1)) % 4294967296)] (fun k_ => (w.heap.size ≤ k_)) (fun _ => False) rfl rfl ?aP (fun _ hk => hk.elim) ?aF ?aO ?aB ?aS ?aL ?_;(case aP => exact rfl);(case aB => exact pB);(case aF => exact (fun k_ hk => (Nat.le_trans (zQa pB) hk)));(case aO => exact (pR HO_5.out));(case aS => exact (zQa pB));(case aL => have := LMc13.out;omega);intro v192 w14 ho hb hg hat;rw [← Ny191.out] at ho;replace HB := am (hb);have HO193 := am (ho);clear HO_5;clear ho hb hg hat))
          go_roundg k1
          case measure => have := HK1.out;omega
          case rel => exact ⟨(y191),((IntKind.u64.wrap ((IntKind.u64.wrap (rd l0 x16_1)) - x6_1)) / 9223372036854775808),(wrap64 (x16_1 + 1)),pS,pS,H',⟨by have := HK1.out;omega⟩,⟨by (with_reducible repeat (first | apply Kd.zQo | apply Kd.zQj | apply Kd.zQs));exact HO193.out⟩,⟨pB⟩⟩
         ·rw [if_neg c13] at H
          cases H
       ·rw [if_neg c9] at H
        cases H
      ·rw [if_neg c8] at H
       cases H
     ·rw [if_neg c7] at H;have c7b0 : decide (x16_1 < (l0.length : Int)) = false := decide_eq_false c7;clear c7;obtain ⟨t194,A15,H⟩ := oB H;(try dsimp only at H);obtain rfl := Option.some.inj H;obtain ⟨Ao16,co16,eo16⟩ := Kd.zQv HO_5.out;subst eo16;go_wp2_with (first | ((with_reducible refine zQb (f := 57) rfl ?_);refine zQi (some 46) rfl rfl Tryz.func57 (by kernel_rfl) rfl #[.slice Ao16 x5_1.length co16] rfl pM ?_;(with_reducible refine (b_trim.calls k1 (fun k_ => some k_ = (.slice Ao16 x5_1.length co16 : Value).ownBlock) _ _ x5_1 t194 _ ?side1 A15.out).mono ?_);(case side1 => exact Kd.R_V (Kd.zXt rfl (HO_5.out)));rintro e w17 ⟨v195,rfl,ho0,hb⟩;refine ⟨_,rfl,?_⟩;have HO196 := am (Kd.zQQ (Kd.zQh (ok' := fun k_ => (w.heap.size ≤ k_)) ho0 (fun k_ hk_ => Or.elim hk_ (fun hs_ => ((HO_5.out).1 k_ hs_.symm)) (fun hn_ => (Nat.le_trans (zQa pB) hn_)))) (zQa pB));replace HO_5 := am (Kd.zQw (pR HO_5.out) hb);replace HB := bS hb;(try clear hb);(try clear ho0)))
      go_ret
      exact ⟨_,pE,by (with_reducible repeat (first | apply Kd.zQp | apply Kd.zQm | apply Kd.zQq));exact HO196.out,pB⟩
  ·rw [if_neg c4] at H
   cases H
 ·rw [if_neg c3] at H
  cases H
def b_by.l0 : Nat → List Int → List Int → Int → Int → Option (Int × Bool)
 | 0,_,_,_,_ => none
 | k + 1,x0,x1,x6,x7 => if x7 ≥ 0 then ((b_len.f x0).bind fun t197 => ((b_len.f x1).bind fun t198 => (if t197 < (wrap64 (t198 + x7)) then (b_by.l0 k x0 x1 x6 (wrap64 (x7 - 1))) else ((b_up.f k x1 x7).bind fun t199 => ((b_cmp.f k x0 t199).bind fun t202 => (if t202 ≥ 0 then ((b_minus.f k x0 t199).bind fun t203 => (if 0 ≤ x7 then (b_by.l0 k t203 x1 (Go.bits .or .u64 x6 (shl .u64 1 x7)) (wrap64 (x7 - 1))) else (none))) else (b_by.l0 k x0 x1 x6 (wrap64 (x7 - 1))))))))) else (some (x6,decide ((x0.length : Int) > 0)))
def b_by.f (k : Nat) (l0 : List Int) (l1 : List Int) : Option (Int × Bool) := b_by.l0 k l0 l1 0 63
theorem b_by.mono_l : ∀ k,(∀ y0 y1 y2 y3,LeO (b_by.l0 k y0 y1 y2 y3) (b_by.l0 (k + 1) y0 y1 y2 y3))
 | 0 => fun _ _ _ _ r h => by simp [b_by.l0] at h
 | k + 1 => by
  have ih0 := b_by.mono_l k
  ·intro y0 y1 y2 y3;unfold b_by.l0;repeat' first
   | (with_reducible exact ih0 _ _ _ _)
   | (with_reducible exact b_cmp.mono _ _ _)
   | (with_reducible exact b_minus.mono _ _ _)
   | (with_reducible exact b_up.mono _ _ _)
   | (with_reducible exact LeO.refl _)
   | (with_reducible exact LeO.none _)
   | (with_reducible refine LeO.ite ?_ ?_)
   | (with_reducible refine LeO.bind ?_ (fun _ => ?_))
   | exact ih0 _ _ _ _
   | exact b_cmp.mono _ _ _
   | exact b_minus.mono _ _ _
   | exact b_up.mono _ _ _
   | exact LeO.none _
   | refine LeO.ite ?_ ?_
   | refine LeO.bind ?_ (fun _ => ?_)
theorem b_by.mono : ∀ a0 a1 k,LeO (b_by.f k a0 a1) (b_by.f (k + 1) a0 a1) := by
 intro a0 a1 k;have ih0 := b_by.mono_l k;unfold b_by.f
 repeat' first
   | (with_reducible exact ih0 _ _ _ _)
   | (with_reducible exact b_cmp.mono _ _ _)
   | (with_reducible exact b_minus.mono _ _ _)
   | (with_reducible exact b_up.mono _ _ _)
   | (with_reducible exact LeO.refl _)
   | (with_reducible exact LeO.none _)
   | (with_reducible refine LeO.ite ?_ ?_)
   | (with_reducible refine LeO.bind ?_ (fun _ => ?_))
   | exact ih0 _ _ _ _
   | exact b_cmp.mono _ _ _
   | exact b_minus.mono _ _ _
   | exact b_up.mono _ _ _
   | exact LeO.none _
   | refine LeO.ite ?_ ?_
   | refine LeO.bind ?_ (fun _ => ?_)
set_option maxHeartbeats 8000000 in
set_option maxRecDepth 100000 in
theorem b_by.calls (k : Nat) (P0_ : Nat → Prop) (A0 : Option Addr) (c0 : Nat) (l0 : List Int) (A1 : Option Addr) (c1 : Nat) (l1 : List Int) (r1 : Int) (r2 : Bool) (w : World) (hs0 : Kd.V (Kd.int .u32) 52 w w.heap.size (fun k_ => P0_ k_) (.slice A0 l0.length c0) l0) (hr1 : Kd.C (Kd.int .u32) w A1 l1.length l1) (hc1 : l1.length ≤ c1) (h : b_by.f k l0 l1 = some (r1,r2)) :
  Calls Tryz.prog 29 #[.slice A0 l0.length c0,.slice A1 l1.length c1] w fun e w' => e = .returned (.tuple #[.int .u64 r1,.bool r2]) ∧ Below w.heap.size w w' := by
 have HO0 := am (show Kd.V (Kd.int .u32) 52 w w.heap.size (fun k_ => (P0_ k_ ∨ w.heap.size ≤ k_)) (.slice A0 l0.length c0) l0 from Kd.zQh hs0 (fun k_ hk => .inl hk));have HR1 := am hr1;have HC1 := am hc1;clear hr1 hc1;have HB := am (Below.refl w.heap.size w);have H : (b_by.l0 k l0 l1 0 63) = some (r1,r2) := h;clear h;have H' := am H;clear H;go_enter Tryz.func29,Tryz.ntmps29;go_wp2
 go_loopg [0,6,7] k (fun kq v0 v6 v7 w' => ∃ (x0_1 : List Int) (x6_1 : Int) (x7_1 : Int),v6 = .int .u64 x6_1 ∧ v7 = .int .i64 x7_1 ∧ Aside0 (b_by.l0 kq x0_1 l1 x6_1 x7_1 = some (r1,r2)) ∧ Aside0 (kq ≤ k) ∧ Aside0 (Kd.V (Kd.int .u32) 52 w' w.heap.size (fun k_ => (P0_ k_ ∨ w.heap.size ≤ k_)) v0 x0_1) ∧ Aside0 (Below w.heap.size w w'))
 case atStart => exact ⟨(l0),(0),(63),pS,pS,H',⟨Nat.le_refl _⟩,⟨by (with_reducible repeat (first | apply Kd.zQp | apply Kd.zQm | apply Kd.zQq));exact HO0.out⟩,⟨pB⟩⟩
 case round =>
  clear H';(try clear c1);(try clear c2);(try clear p2);obtain ⟨x0_1,x6_1,x7_1,rfl,rfl,HA,HK1,HO_0,HB⟩ := hrel
  cases gk with
  | zero => exact absurd HA.out (by simp [b_by.l0])
  | succ k1 =>
   have H := HA.out;clear HA;simp only [b_by.l0] at H;by_cases c3 : x7_1 ≥ 0
   ·rw [if_pos c3] at H;have c3b0 : decide (0 ≤ x7_1) = true := decide_eq_true c3;clear c3;obtain ⟨t197,A4,H⟩ := oB H;(try dsimp only at H);obtain ⟨t198,A5,H⟩ := oB H;(try dsimp only at H);by_cases c6 : t197 < (wrap64 (t198 + x7_1))
    ·rw [if_pos c6] at H;have c6b0 : decide (t197 < (wrap64 (t198 + x7_1))) = true := decide_eq_true c6;clear c6;have H' := am H;clear H;obtain ⟨Ao7,co7,eo7⟩ := Kd.zQA HO_0.out;subst eo7;go_wp2_with (first | ((with_reducible refine zQb (f := 27) rfl ?_);refine zQi (some 14) rfl rfl Tryz.func27 (by kernel_rfl) rfl #[.slice Ao7 x0_1.length co7] rfl pM ?_;(with_reducible refine (b_len.calls _ _ x0_1 t197 _ ?side1 ?side2 A4.out).mono ?_);(case side1 => exact pC (Kd.zQg HO_0.out).2.2);(case side2 => exact (Kd.zQg HO_0.out).2.1);rintro e w' ⟨rfl,⟨nd,rfl⟩⟩;refine ⟨_,rfl,?_⟩) | ((with_reducible refine zQb (f := 27) rfl ?_);refine zQi (some 16) rfl rfl Tryz.func27 (by kernel_rfl) rfl #[.slice A1 l1.length c1] rfl pM ?_;(with_reducible refine (b_len.calls _ _ l1 t198 _ ?side1 ?side2 A5.out).mono ?_);(case side1 => exact pC ((Kd.zQF HR1.out pB)));(case side2 => exact HC1.out);rintro e w' ⟨rfl,⟨nd,rfl⟩⟩;refine ⟨_,rfl,?_⟩))
     go_roundg k1
     case measure => have := HK1.out;omega
     case rel => exact ⟨(x0_1),(x6_1),(wrap64 (x7_1 - 1)),pS,pS,H',⟨by have := HK1.out;omega⟩,⟨by (with_reducible repeat (first | apply Kd.zQp | apply Kd.zQm | apply Kd.zQq));exact HO_0.out⟩,⟨pB⟩⟩
    ·rw [if_neg c6] at H;have c6b0 : decide (t197 < (wrap64 (t198 + x7_1))) = false := decide_eq_false c6;clear c6;obtain ⟨t199,A8,H⟩ := oB H;(try dsimp only at H);obtain ⟨t202,A9,H⟩ := oB H;(try dsimp only at H);by_cases c10 : t202 ≥ 0
     ·rw [if_pos c10] at H;have c10b0 : decide (0 ≤ t202) = true := decide_eq_true c10;clear c10;obtain ⟨t203,A11,H⟩ := oB H;(try dsimp only at H);by_cases c12 : 0 ≤ x7_1
      ·rw [if_pos c12] at H;have c12b0 := eq_true c12;have c12b1 : decide (0 ≤ x7_1) = true := decide_eq_true c12;clear c12;obtain ⟨ji13,hji13⟩ : ∃ j_ : Int,(shl .u64 1 x7_1) = j_ := ⟨_,rfl⟩;(replace H : (b_by.l0 k1 t203 l1 (Go.bits .or .u64 x6_1 (ji13)) (wrap64 (x7_1 - 1))) = some (r1,r2) := by first | (rw [hji13] at H;exact H) | (simp only [hji13] at H ⊢;exact H));(try rw [hji13] at A4);(try rw [hji13] at A5);(try rw [hji13] at A8);(try rw [hji13] at A9);(try rw [hji13] at A11);have hji13_ : (IntKind.u64.wrap (1 * 2 ^ min x7_1.toNat 64)) = ji13 := hji13;have hji13z : x7_1 ≤ 64 → (IntKind.u64.wrap (1 * 2 ^ x7_1.toNat)) = ji13 := zXU hji13;(have hji13u : (IntKind.u64.wrap (2 ^ min x7_1.toNat 64)) = ji13 := by have h_ := hji13_;rw [Int.one_mul] at h_;exact h_);(have hji13v : x7_1 ≤ 64 → (IntKind.u64.wrap (2 ^ x7_1.toNat)) = ji13 := fun hle_ => by have h_ := hji13z hle_;rw [Int.one_mul] at h_;exact h_);have H' := am H;clear H;obtain ⟨Ao14,co14,eo14⟩ := Kd.zQA HO_0.out;subst eo14;go_wp2_with (first | ((with_reducible refine zQb (f := 27) rfl ?_);refine zQi (some 14) rfl rfl Tryz.func27 (by kernel_rfl) rfl #[.slice Ao14 x0_1.length co14] rfl pM ?_;(with_reducible refine (b_len.calls _ _ x0_1 t197 _ ?side1 ?side2 A4.out).mono ?_);(case side1 => exact pC (Kd.zQg HO_0.out).2.2);(case side2 => exact (Kd.zQg HO_0.out).2.1);rintro e w' ⟨rfl,⟨nd,rfl⟩⟩;refine ⟨_,rfl,?_⟩) | ((with_reducible refine zQb (f := 27) rfl ?_);refine zQi (some 16) rfl rfl Tryz.func27 (by kernel_rfl) rfl #[.slice A1 l1.length c1] rfl pM ?_;(with_reducible refine (b_len.calls _ _ l1 t198 _ ?side1 ?side2 A5.out).mono ?_);(case side1 => exact pC ((Kd.zQF HR1.out pB)));(case side2 => exact HC1.out);rintro e w' ⟨rfl,⟨nd,rfl⟩⟩;refine ⟨_,rfl,?_⟩) | ((with_reducible refine zQb (f := 28) rfl ?_);refine zQi (some 22) rfl rfl Tryz.func28 (by kernel_rfl) rfl #[.slice A1 l1.length c1,.int .i64 x7_1] rfl pM ?_;(with_reducible refine (b_up.calls k1 _ _ l1 x7_1 t199 _ ?side1 ?side2 A8.out).mono ?_);(case side1 => exact pC ((Kd.zQF HR1.out pB)));(case side2 => exact HC1.out);rintro e w15 ⟨v200,rfl,ho0,hb⟩;refine ⟨_,rfl,?_⟩;replace HO_0 := am (Kd.zQH (pV HO_0.out) (Kd.zQn ho0) hb);have HO201 := am (Kd.zQr (Kd.zXv (M := fun k_ => (w.heap.size ≤ k_)) ho0 (zQa pB) (fun k_ h_ => h_)) (zQa pB));replace HB := bS hb;(try clear hb);(try clear ho0);obtain ⟨Ao16,co16,eo16⟩ := Kd.zQv HO201.out;subst eo16) | ((with_reducible refine zQb (f := 45) rfl ?_);refine zQi (some 25) rfl rfl Tryz.func45 (by kernel_rfl) rfl #[.slice Ao14 x0_1.length co14,.slice Ao16 t199.length co16] rfl pM ?_;(with_reducible refine (b_cmp.calls k1 _ _ x0_1 _ _ t199 t202 _ ?side1 ?side2 ?side3 ?side4 A9.out).mono ?_);(case side1 => exact pC (Kd.zQg HO_0.out).2.2);(case side2 => exact (Kd.zQg HO_0.out).2.1);(case side3 => exact pC (Kd.zQe HO201.out).2.2);(case side4 => exact (Kd.zQe HO201.out).2.1);rintro e w' ⟨rfl,⟨nd,rfl⟩⟩;refine ⟨_,rfl,?_⟩) | ((with_reducible refine zQb (f := 46) rfl ?_);refine zQi (some 29) rfl rfl Tryz.func46 (by kernel_rfl) rfl #[.slice Ao14 x0_1.length co14,.slice Ao16 t199.length co16] rfl pM ?_;(with_reducible refine (b_minus.calls k1 _ _ x0_1 _ _ t199 t203 _ ?side1 ?side2 ?side3 ?side4 A11.out).mono ?_);(case side1 => exact pC (Kd.zQg HO_0.out).2.2);(case side2 => exact (Kd.zQg HO_0.out).2.1);(case side3 => exact pC (Kd.zQe HO201.out).2.2);(case side4 => exact (Kd.zQe HO201.out).2.1);rintro e w17 ⟨v204,rfl,ho0,hb⟩;refine ⟨_,rfl,?_⟩;replace HO_0 := am (Kd.zQk (pV HO_0.out) hb);have HO205 := am (Kd.zQQ (Kd.zQh (ok' := fun k_ => (P0_ k_ ∨ w.heap.size ≤ k_) ∧ some k_ ≠ (.slice Ao16 t199.length co16 : Value).ownBlock) ho0 (fun k_ hk_ => ⟨(.inr (Nat.le_trans (zQa pB) hk_)),(Kd.fresh' (Kd.R_lt (pR HO201.out)) k_ hk_)⟩)) (zQa pB));replace HO201 := am (Kd.zQw (pR HO201.out) hb);replace HB := bS hb;(try clear hb);(try clear ho0)))
       go_roundg k1
       case measure => have := HK1.out;omega
       case rel => exact ⟨(t203),(Go.bits .or .u64 x6_1 (ji13)),(wrap64 (x7_1 - 1)),(by first | rfl | (simp;done) | (simp only [← hji13] <;> (first | rfl | simp)) | (simp [*];done)),pS,H',⟨by have := HK1.out;omega⟩,⟨by (with_reducible repeat (first | apply Kd.zQp | apply Kd.zQm | apply Kd.zQq));exact Kd.zQh HO205.out (fun _ hk => hk.1)⟩,⟨pB⟩⟩
      ·rw [if_neg c12] at H
       cases H
     ·rw [if_neg c10] at H;have c10b0 : decide (0 ≤ t202) = false := decide_eq_false c10;clear c10;have H' := am H;clear H;obtain ⟨Ao18,co18,eo18⟩ := Kd.zQA HO_0.out;subst eo18;go_wp2_with (first | ((with_reducible refine zQb (f := 27) rfl ?_);refine zQi (some 14) rfl rfl Tryz.func27 (by kernel_rfl) rfl #[.slice Ao18 x0_1.length co18] rfl pM ?_;(with_reducible refine (b_len.calls _ _ x0_1 t197 _ ?side1 ?side2 A4.out).mono ?_);(case side1 => exact pC (Kd.zQg HO_0.out).2.2);(case side2 => exact (Kd.zQg HO_0.out).2.1);rintro e w' ⟨rfl,⟨nd,rfl⟩⟩;refine ⟨_,rfl,?_⟩) | ((with_reducible refine zQb (f := 27) rfl ?_);refine zQi (some 16) rfl rfl Tryz.func27 (by kernel_rfl) rfl #[.slice A1 l1.length c1] rfl pM ?_;(with_reducible refine (b_len.calls _ _ l1 t198 _ ?side1 ?side2 A5.out).mono ?_);(case side1 => exact pC ((Kd.zQF HR1.out pB)));(case side2 => exact HC1.out);rintro e w' ⟨rfl,⟨nd,rfl⟩⟩;refine ⟨_,rfl,?_⟩) | ((with_reducible refine zQb (f := 28) rfl ?_);refine zQi (some 22) rfl rfl Tryz.func28 (by kernel_rfl) rfl #[.slice A1 l1.length c1,.int .i64 x7_1] rfl pM ?_;(with_reducible refine (b_up.calls k1 _ _ l1 x7_1 t199 _ ?side1 ?side2 A8.out).mono ?_);(case side1 => exact pC ((Kd.zQF HR1.out pB)));(case side2 => exact HC1.out);rintro e w19 ⟨v200,rfl,ho0,hb⟩;refine ⟨_,rfl,?_⟩;replace HO_0 := am (Kd.zQH (pV HO_0.out) (Kd.zQn ho0) hb);have HO201 := am (Kd.zQr (Kd.zXv (M := fun k_ => (w.heap.size ≤ k_)) ho0 (zQa pB) (fun k_ h_ => h_)) (zQa pB));replace HB := bS hb;(try clear hb);(try clear ho0);obtain ⟨Ao20,co20,eo20⟩ := Kd.zQv HO201.out;subst eo20) | ((with_reducible refine zQb (f := 45) rfl ?_);refine zQi (some 25) rfl rfl Tryz.func45 (by kernel_rfl) rfl #[.slice Ao18 x0_1.length co18,.slice Ao20 t199.length co20] rfl pM ?_;(with_reducible refine (b_cmp.calls k1 _ _ x0_1 _ _ t199 t202 _ ?side1 ?side2 ?side3 ?side4 A9.out).mono ?_);(case side1 => exact pC (Kd.zQg HO_0.out).2.2);(case side2 => exact (Kd.zQg HO_0.out).2.1);(case side3 => exact pC (Kd.zQe HO201.out).2.2);(case side4 => exact (Kd.zQe HO201.out).2.1);rintro e w' ⟨rfl,⟨nd,rfl⟩⟩;refine ⟨_,rfl,?_⟩))
      go_roundg k1
      case measure => have := HK1.out;omega
      case rel => exact ⟨(x0_1),(x6_1),(wrap64 (x7_1 - 1)),pS,pS,H',⟨by have := HK1.out;omega⟩,⟨by (with_reducible repeat (first | apply Kd.zQp | apply Kd.zQm | apply Kd.zQq));exact Kd.zQh HO_0.out (fun _ hk => hk.1)⟩,⟨pB⟩⟩
   ·rw [if_neg c3] at H;have c3b0 : decide (0 ≤ x7_1) = false := decide_eq_false c3;clear c3;simp only [Option.some.injEq,Prod.mk.injEq] at H;obtain ⟨rfl,rfl⟩ := H;obtain ⟨Ao21,co21,eo21⟩ := Kd.zQA HO_0.out;subst eo21;go_wp2;go_ret2;exact ⟨pE,pB⟩
end Go.Proofs.YtflcanpajgpghaaGreatDoor.Pr
end
section
namespace Go.Proofs.YtflcanpajgpghaaGreatDoor.Pr
open Go.RowKit Go.Proofs.YtflcanpajgpghaaGreatDoorW.PrintWords Go.Proofs.YtflcanpajgpghaaGreatDoorW.PrintLast Go.Proofs.YtflcanpajgpghaaGreatDoorW.PrintMore
attribute [local go_sem] zXe zXc zXn zXm zQV zQU zXd zXb
mutual
def dec_nearest.l0 : Nat → List Int → Int → Int → ByteArray → Int → Option (Int)
 | 0,_,_,_,_,_ => none
 | k + 1,x3,x11,x12,x207000,x207001 => if x12 < x11 then (if 0 ≤ x12 then (if x12 < (x207000.size : Int) then ((b_times.f k x3 10 (((bt x207000 x12) - 48) % 256)).bind fun t207 => (dec_nearest.l0 k t207 x11 (wrap64 (x12 + 1)) x207000 x207001)) else (none)) else (none)) else (if (x3.length : Int) = 0 then (dec_nearest.j1 k x3 true x207000 x207001) else (dec_nearest.j1 k x3 (decide (x207001 < (-1000))) x207000 x207001))
def dec_nearest.j1 : Nat → List Int → Bool → ByteArray → Int → Option (Int)
 | 0,_,_,_,_ => none
 | k + 1,x3,x24,x207000,x207001 => if x24 = true then (some 0) else (if x207001 > 400 then ((flo_Make.f k false 9999 1 false).bind fun t210 => (some t210)) else ((some (([1] : List Int) : List Int)).bind fun y211 => (if x207001 ≥ 0 then ((b_tens.f k x3 x207001).bind fun t214 => (dec_nearest.j2 k t214 y211)) else ((b_tens.f k y211 (wrap64 (-x207001))).bind fun t217 => (dec_nearest.j2 k x3 t217)))))
def dec_nearest.j2 : Nat → List Int → List Int → Option (Int)
 | 0,_,_ => none
 | k + 1,x3,x5 => (b_len.f x3).bind fun t220 => ((b_len.f x5).bind fun t221 => (if (wrap64 (63 - (wrap64 (t220 - t221)))) ≥ 0 then ((b_up.f k x3 (wrap64 (63 - (wrap64 (t220 - t221))))).bind fun t222 => (dec_nearest.j3 k t222 x5 (wrap64 (63 - (wrap64 (t220 - t221)))))) else ((b_up.f k x5 (wrap64 (-(wrap64 (63 - (wrap64 (t220 - t221))))))).bind fun t225 => (dec_nearest.j3 k x3 t225 (wrap64 (63 - (wrap64 (t220 - t221))))))))
def dec_nearest.j3 : Nat → List Int → List Int → Int → Option (Int)
 | 0,_,_,_ => none
 | k + 1,x3,x5,x6 => (b_by.f k x3 x5).bind fun bt228 => (if bt228.2 = true then ((flo_Make.f k false (wrap64 (-x6)) (Go.bits .or .u64 bt228.1 1) false).bind fun t230 => (some t230)) else ((flo_Make.f k false (wrap64 (-x6)) bt228.1 false).bind fun t231 => (some t231)))
end
def dec_nearest.f (k : Nat) (a0_0 : ByteArray) (a0_1 : Int) : Option (Int) := dec_nearest.l0 k ([] : List Int) (a0_0.size : Int) 0 a0_0 a0_1
theorem dec_nearest.mono_l : ∀ k,(∀ y0 y1 y2 y3 y4,LeO (dec_nearest.l0 k y0 y1 y2 y3 y4) (dec_nearest.l0 (k + 1) y0 y1 y2 y3 y4)) ∧ (∀ y0 y1 y2 y3,LeO (dec_nearest.j1 k y0 y1 y2 y3) (dec_nearest.j1 (k + 1) y0 y1 y2 y3)) ∧ (∀ y0 y1,LeO (dec_nearest.j2 k y0 y1) (dec_nearest.j2 (k + 1) y0 y1)) ∧ (∀ y0 y1 y2,LeO (dec_nearest.j3 k y0 y1 y2) (dec_nearest.j3 (k + 1) y0 y1 y2))
 | 0 => ⟨fun _ _ _ _ _ r h => by simp [dec_nearest.l0] at h,fun _ _ _ _ r h => by simp [dec_nearest.j1] at h,fun _ _ r h => by simp [dec_nearest.j2] at h,fun _ _ _ r h => by simp [dec_nearest.j3] at h⟩
 | k + 1 => by
  obtain ⟨ih0,ih1,ih2,ih3⟩ := dec_nearest.mono_l k;refine ⟨?_,?_,?_,?_⟩
  all_goals intros
  all_goals first | unfold dec_nearest.l0 | unfold dec_nearest.j1 | unfold dec_nearest.j2 | unfold dec_nearest.j3
  all_goals repeat' first
   | (with_reducible exact ih0 _ _ _ _ _)
   | (with_reducible exact ih1 _ _ _ _)
   | (with_reducible exact ih2 _ _)
   | (with_reducible exact ih3 _ _ _)
   | (with_reducible exact b_by.mono _ _ _)
   | (with_reducible exact b_tens.mono _ _ _)
   | (with_reducible exact b_times.mono _ _ _ _)
   | (with_reducible exact b_up.mono _ _ _)
   | (with_reducible exact flo_Make.mono _ _ _ _ _)
   | (with_reducible exact LeO.refl _)
   | (with_reducible exact LeO.none _)
   | (with_reducible refine LeO.ite ?_ ?_)
   | (with_reducible refine LeO.bind ?_ (fun _ => ?_))
   | exact ih0 _ _ _ _ _
   | exact ih1 _ _ _ _
   | exact ih2 _ _
   | exact ih3 _ _ _
   | exact b_by.mono _ _ _
   | exact b_tens.mono _ _ _
   | exact b_times.mono _ _ _ _
   | exact b_up.mono _ _ _
   | exact flo_Make.mono _ _ _ _ _
   | exact LeO.none _
   | refine LeO.ite ?_ ?_
   | refine LeO.bind ?_ (fun _ => ?_)
theorem dec_nearest.mono : ∀ a0 a1 k,LeO (dec_nearest.f k a0 a1) (dec_nearest.f (k + 1) a0 a1) := by
 intro a0 a1 k;obtain ⟨ih0,ih1,ih2,ih3⟩ := dec_nearest.mono_l k;unfold dec_nearest.f
 repeat' first
   | (with_reducible exact ih0 _ _ _ _ _)
   | (with_reducible exact ih1 _ _ _ _)
   | (with_reducible exact ih2 _ _)
   | (with_reducible exact ih3 _ _ _)
   | (with_reducible exact b_by.mono _ _ _)
   | (with_reducible exact b_tens.mono _ _ _)
   | (with_reducible exact b_times.mono _ _ _ _)
   | (with_reducible exact b_up.mono _ _ _)
   | (with_reducible exact flo_Make.mono _ _ _ _ _)
   | (with_reducible exact LeO.refl _)
   | (with_reducible exact LeO.none _)
   | (with_reducible refine LeO.ite ?_ ?_)
   | (with_reducible refine LeO.bind ?_ (fun _ => ?_))
   | exact ih0 _ _ _ _ _
   | exact ih1 _ _ _ _
   | exact ih2 _ _
   | exact ih3 _ _ _
   | exact b_by.mono _ _ _
   | exact b_tens.mono _ _ _
   | exact b_times.mono _ _ _ _
   | exact b_up.mono _ _ _
   | exact flo_Make.mono _ _ _ _ _
   | exact LeO.none _
   | refine LeO.ite ?_ ?_
   | refine LeO.bind ?_ (fun _ => ?_)
set_option maxHeartbeats 8000000 in
set_option maxRecDepth 100000 in
theorem dec_nearest.calls (k : Nat) (a0_0 : ByteArray) (a0_1 : Int) (r : Int) (w : World) (h : dec_nearest.f k a0_0 a0_1 = some r) :
  Calls Tryz.prog 11 #[.agg #[.string a0_0,.int .i64 a0_1]] w fun e w' => e = .returned (.int .u64 r) ∧ Below w.heap.size w w' := by
 have hu32 := Tryz.underlying32;have HB := am (Below.refl w.heap.size w);have H : (dec_nearest.l0 k ([] : List Int) (a0_0.size : Int) 0 a0_0 a0_1) = some r := h;clear h;have H' := am H;clear H;go_enter Tryz.func11,Tryz.ntmps11;go_wp2_with (first | ((with_reducible refine zQE (N := 1) rfl ?_);refine zXM ?hg (N := 1) ?hd (cs := #[.string a0_0,.int .i64 a0_1]) (t := 32) ?hr ?_;(case hd => rfl);(case hg => rfl);(case hr => first | (go_simp;done) | (go_simp;rfl));intro gb206 hg w2 hbox hb;have BK206 := am (hbox);have GW206 := am ((by rw [hg];exact (zQa pB) : w.heap.size ≤ gb206));have GE206 := am ((by rw [hg];exact (zQa pB) : w.heap.size ≤ gb206));replace HB := bS hb;clear hb hbox hg;have q3 := cf2 BK206.out))
 go_loopg [3,12] k (fun kq v3 v12 w' => ∃ (x3_1 : List Int) (x12_1 : Int),v12 = .int .i64 x12_1 ∧ Aside0 (dec_nearest.l0 kq x3_1 (a0_0.size : Int) x12_1 a0_0 a0_1 = some r) ∧ Aside0 (kq ≤ k) ∧ Aside0 (Kd.V (Kd.int .u32) 52 w' w.heap.size (fun k_ => k_ ≠ gb206) v3 x3_1) ∧ Aside0 (w'.heap[gb206]? = some (.cells #[.string a0_0,.int .i64 a0_1] 32 (0,0))) ∧ Aside0 (Below w.heap.size w w'))
 case atStart => exact ⟨(([] : List Int)),(0),pS,H',⟨Nat.le_refl _⟩,⟨pZ⟩,⟨pK BK206.out⟩,⟨pB⟩⟩
 case round =>
  clear H';(try clear c1);(try clear p2);(try clear q3);obtain ⟨x3_1,x12_1,rfl,HA,HK1,HO_3,BK206,HB⟩ := hrel
  cases gk with
  | zero => exact absurd HA.out (by simp [dec_nearest.l0])
  | succ k1 =>
   have H := HA.out;clear HA;simp only [dec_nearest.l0] at H;by_cases c4 : x12_1 < (a0_0.size : Int)
   ·rw [if_pos c4] at H;have c4b0 : decide (x12_1 < (a0_0.size : Int)) = true := decide_eq_true c4;clear c4;by_cases c5 : 0 ≤ x12_1
    ·rw [if_pos c5] at H;have c5b0 : decide (0 ≤ x12_1) = true := decide_eq_true c5;clear c5;by_cases c6 : x12_1 < (a0_0.size : Int)
     ·rw [if_pos c6] at H;have c6b0 : decide (x12_1 < (a0_0.size : Int)) = true := decide_eq_true c6;clear c6;obtain ⟨t207,A8,H⟩ := oB H;(try dsimp only at H);have H' := am H;clear H;have q9 := cf2 BK206.out;have p7 : 0 ≤ (x12_1 : Int) := pD;have q7 : x12_1 < (a0_0.size : Int) := pD;have hx7 := bt_at a0_0 x12_1;replace p7 := eq_true p7;replace q7 := eq_true q7;obtain ⟨Ao10,co10,eo10⟩ := Kd.zQA HO_3.out;subst eo10;go_wp2_with (first | ((with_reducible refine zQb (f := 24) rfl ?_);refine zQi (some 22) rfl rfl Tryz.func24 (by kernel_rfl) rfl #[.slice Ao10 x3_1.length co10,.int .u32 10,.int .u32 (((bt a0_0 x12_1) - 48) % 256)] rfl pM ?_;(with_reducible refine (b_times.calls k1 _ _ x3_1 10 (((bt a0_0 x12_1) - 48) % 256) t207 _ ?side1 ?side2 A8.out).mono ?_);(case side1 => exact pC (Kd.zQg HO_3.out).2.2);(case side2 => exact (Kd.zQg HO_3.out).2.1);rintro e w11 ⟨v208,rfl,ho0,hb⟩;refine ⟨_,rfl,?_⟩;replace HO_3 := am (Kd.zQk (pV HO_3.out) hb);have HO209 := am (Kd.zQQ (Kd.zQh (ok' := fun k_ => k_ ≠ gb206) ho0 (fun k_ hk_ => (Kd.zQX (g := gb206) (o := .cells #[.string a0_0,.int .i64 a0_1] 32 (0,0)) (pK BK206.out) k_ hk_))) (zQa pB));replace BK206 := am (pkb BK206.out hb);replace HB := bS hb;(try clear hb);(try clear ho0)))
      go_roundg k1
      case measure => have := HK1.out;omega
      case rel => exact ⟨(t207),(wrap64 (x12_1 + 1)),pS,H',⟨by have := HK1.out;omega⟩,⟨by (with_reducible repeat (first | apply Kd.zQp | apply Kd.zQm | apply Kd.zQq));exact HO209.out⟩,⟨pK BK206.out⟩,⟨pB⟩⟩
     ·rw [if_neg c6] at H
      cases H
    ·rw [if_neg c5] at H
     cases H
   ·rw [if_neg c4] at H;have c4b0 : decide (x12_1 < (a0_0.size : Int)) = false := decide_eq_false c4;clear c4;have HC12 := am H;clear H;go_upto_region 7 with (fail)
    go_cut [24] (fun v24 wc => ∃ (kq : Nat) (x24_11 : Bool),v24 = .bool x24_11 ∧ Aside0 (dec_nearest.j1 kq x3_1 x24_11 a0_0 a0_1 = some r) ∧ Aside0 (kq ≤ k1) ∧ Aside0 (Kd.V (Kd.int .u32) 52 wc w.heap.size (fun k_ => k_ ≠ gb206) u3 x3_1) ∧ Aside0 (wc.heap[gb206]? = some (.cells #[.string a0_0,.int .i64 a0_1] 32 (0,0))) ∧ Aside0 (Below w.heap.size w wc))
    case first =>
     have H := HC12.out;clear HC12;by_cases c13 : (x3_1.length : Int) = 0
     ·rw [if_pos c13] at H;have c13b0 : ((x3_1.length : Int) == 0) = true := beq_iff_eq.mpr c13;have c13b1 : ((x3_1.length : Int) != 0) = false := bne_eq_false_iff_eq.mpr c13;clear c13;(first | rw [c13b0] | (simp only [i64_w,i32_w];rw [c13b0]) | rw [c13b1] | (simp only [i64_w,i32_w];rw [c13b1]) | skip);have H' := am H;clear H;obtain ⟨Ao14,co14,eo14⟩ := Kd.zQA HO_3.out;subst eo14;go_wp2;go_meet
      case rel => exact ⟨_,(true),pS,H',⟨by have := HK1.out;first | omega | exact Nat.le_refl _⟩,⟨by (with_reducible repeat (first | apply Kd.zQp | apply Kd.zQm | apply Kd.zQq));exact HO_3.out⟩,⟨pK BK206.out⟩,⟨pB⟩⟩
     ·rw [if_neg c13] at H;have c13b0 : ((x3_1.length : Int) == 0) = false := beq_eq_false_iff_ne.mpr c13;have c13b1 : ((x3_1.length : Int) != 0) = true := bne_iff_ne.mpr c13;(have c13b2 : ¬ (x3_1 = []) := fun h_ => c13 (by rw [h_];rfl));(first | rw [c13b0] | (simp only [i64_w,i32_w];rw [c13b0]) | rw [c13b1] | (simp only [i64_w,i32_w];rw [c13b1]) | skip);have H' := am H;clear H;obtain ⟨Ao15,co15,eo15⟩ := Kd.zQA HO_3.out;subst eo15;have q16 := cf2 BK206.out;go_wp2;go_meet
      case rel => exact ⟨_,(decide (a0_1 < (-1000))),pS,H',⟨by have := HK1.out;first | omega | exact Nat.le_refl _⟩,⟨by (with_reducible repeat (first | apply Kd.zQp | apply Kd.zQm | apply Kd.zQq));exact HO_3.out⟩,⟨pK BK206.out⟩,⟨pB⟩⟩
    case rest =>
     clear HC12;(try clear c1);(try clear c2);(try clear p2);(try clear c4);(try clear c4b0);(try clear c5);(try clear c5b0);(try clear c6);(try clear c6b0);(try clear p6);(try clear p7);(try clear q7);(try clear hx7);(try clear c11);(try clear c13);(try clear c13b0);(try clear c13b1);(try clear c13b2);(try clear q16 q3 q9);(try clear p2);(try clear p7);(try clear q7);obtain ⟨kq,x24_11,rfl,HA,HJ11,HO_3,BK206,HB⟩ := hcut
     cases kq with
     | zero => exact absurd HA.out (by simp [dec_nearest.j1])
     | succ kj11 =>
      have H := HA.out;clear HA;simp only [dec_nearest.j1] at H;by_cases c17 : x24_11 = true
      ·subst c17;rw [if_pos rfl] at H;obtain rfl := Option.some.inj H;go_wp2
       go_ret
       exact ⟨pE,pB⟩
      ·replace c17 := Bool.eq_false_iff.mpr c17;subst c17;rw [if_neg (show ¬ (false = true) by decide)] at H;by_cases c18 : a0_1 > 400
       ·rw [if_pos c18] at H;have c18b0 : decide (400 < a0_1) = true := decide_eq_true c18;clear c18;obtain ⟨t210,A19,H⟩ := oB H;(try dsimp only at H);obtain rfl := Option.some.inj H;have q20 := cf2 BK206.out;go_wp2_with (first | ((with_reducible refine zQb (f := 25) rfl ?_);refine zQi (some 37) rfl rfl Tryz.func25 (by kernel_rfl) rfl #[.bool false,.int .i64 9999,.int .u64 1,.bool false] rfl pM ?_;(with_reducible refine (flo_Make.calls kj11 false 9999 1 false t210 _ A19.out).mono ?_);rintro e w21 ⟨rfl,hb⟩;refine ⟨_,rfl,?_⟩;replace HO_3 := am (Kd.zQk (pV HO_3.out) hb);replace BK206 := am (pkb BK206.out hb);replace HB := bS hb;(try clear hb)))
        go_ret
        exact ⟨pE,pB⟩
       ·rw [if_neg c18] at H;have c18b0 : decide (400 < a0_1) = false := decide_eq_false c18;clear c18;obtain ⟨y211,hy211⟩ : ∃ y_ : List Int,y_ = (([1] : List Int)) := ⟨_,rfl⟩;(replace H : (if a0_1 ≥ 0 then ((b_tens.f kj11 x3_1 a0_1).bind fun t214 => (dec_nearest.j2 kj11 t214 y211)) else ((b_tens.f kj11 y211 (wrap64 (-a0_1))).bind fun t217 => (dec_nearest.j2 kj11 x3_1 t217))) = some r := by first | (rw [hy211];with_reducible exact H) | (have H2_ := (Option.bind_some _ _).symm.trans H;rw [hy211];with_reducible exact H2_) | (have H2_ := (Option.bind_some _ _).symm.trans H;with_reducible exact H2_) | with_reducible exact H | (rw [hy211];exact H) | exact H);have Ny211 := am hy211;clear hy211;have HC22 := am H;clear H;have q23 := cf2 BK206.out
        go_upto_if 41 with (first | ((with_reducible refine zQE (N := 38) rfl ?_);refine Kd.R_lit (Kd.int .u32) _ 52 ?hg (N := 38) ?hd (xs := ([1] : List Int)) (inner := [.int .u32 1]) (ok := fun _ => True) (okp := fun _ => True) ?hr ?hp (fun _ hk => hk) trivial (Below.refl _ _) (Nat.le_refl _) (by simp) ?_;(case hd => rfl);(case hg => rfl);(case hr => first | (go_simp;done) | (go_simp;rfl));(case hp => exact (Reps.one (show Kd.M (Kd.int .u32) _ _ _ 1 [.int .u32 1] from rfl) (Reps.none _ _)));intro v212 w24 ho25 hb hg_ hnew_;clear hg_ hnew_;(first | rw [← Ny211.out] at ho25 | (simp only [Int.reduceToNat] at ho25;rw [← Ny211.out] at ho25));replace HO_3 := am (Kd.zQH (pV HO_3.out) (Kd.zQn ho25) hb);have HO213 := am (Kd.zQr ho25 (zQa pB));replace BK206 := am (pkb BK206.out hb);replace HB := bS hb;clear hb ho25;have q26 := cf2 BK206.out))
        (try simp only [Act.put,List.setIfInBounds_toArray,List.set_cons_zero,List.set_cons_succ])
        go_cut [3,5] (fun v3 v5 wc => ∃ (kq : Nat) (x3_21 : List Int) (x5_21 : List Int),Aside0 (dec_nearest.j2 kq x3_21 x5_21 = some r) ∧ Aside0 (kq ≤ kj11) ∧ Aside0 (Kd.V (Kd.int .u32) 52 wc w.heap.size (fun k_ => k_ ≠ gb206) v3 x3_21) ∧ Aside0 (Kd.V (Kd.int .u32) 52 wc w.heap.size (fun k_ => k_ ≠ gb206) v5 x5_21) ∧ Aside0 (wc.heap[gb206]? = some (.cells #[.string a0_0,.int .i64 a0_1] 32 (0,0))) ∧ Aside0 (Below w.heap.size w wc))
        case first =>
         have H := HC22.out;clear HC22;by_cases c27 : a0_1 ≥ 0
         ·rw [if_pos c27] at H;have c27b0 : decide (0 ≤ a0_1) = true := decide_eq_true c27;clear c27;(first | rw [c27b0] | (simp only [i64_w,i32_w];rw [c27b0]) | rw [c27b1] | (simp only [i64_w,i32_w];rw [c27b1]) | skip);obtain ⟨t214,A28,H⟩ := oB H;(try dsimp only at H);have H' := am H;clear H;have q29 := cf2 BK206.out;obtain ⟨Ao30,co30,eo30⟩ := Kd.zQA HO_3.out;subst eo30;(go_wp2_with (first | ((with_reducible refine zQb (f := 26) rfl ?_);refine zQi (some 45) rfl rfl Tryz.func26 (by kernel_rfl) rfl #[.slice Ao30 x3_1.length co30,.int .i64 a0_1] rfl pM ?_;(with_reducible refine (b_tens.calls kj11 (fun k_ => (k_ ≠ gb206 ∧ some k_ ≠ (v212 : Value).ownBlock)) _ _ x3_1 a0_1 t214 _ ?side1 A28.out).mono ?_);(case side1 => exact HO_3.out);rintro e w31 ⟨v215,rfl,ho0,hb⟩;refine ⟨_,rfl,?_⟩;replace HO_3 := am (Kd.zQk (pV HO_3.out) hb);have HO216 := am (Kd.zQQ (Kd.zQh (ok' := fun k_ => some k_ ≠ (v212 : Value).ownBlock ∧ k_ ≠ gb206) ho0 (fun k_ hk_ => ⟨Or.elim hk_ (fun hs_ => hs_.2) (fun hn_ => (Kd.fresh' (Kd.R_lt (pR HO213.out)) k_ hn_)),Or.elim hk_ (fun hs_ => hs_.1) (fun hn_ => (Kd.zQX (g := gb206) (o := .cells #[.string a0_0,.int .i64 a0_1] 32 (0,0)) (pK BK206.out) k_ hn_))⟩)) (zQa pB));replace HO213 := am (Kd.zQw (pR HO213.out) hb);replace BK206 := am (pkb BK206.out hb);replace HB := bS hb;(try clear hb);(try clear ho0))));go_meet
          case rel => exact ⟨_,(t214),(y211),H',⟨by have := HK1.out;have := HJ11.out;first | omega | exact Nat.le_refl _⟩,⟨by (with_reducible repeat (first | apply Kd.zQp | apply Kd.zQm | apply Kd.zQq));exact Kd.zQh HO216.out (fun _ hk => hk.2)⟩,⟨Kd.R_V (by (with_reducible repeat (first | apply Kd.zQo | apply Kd.zQj | apply Kd.zQs));exact Kd.zQu (Kd.zQY HO213.out BK206.out (by decide)) (fun _ hk => hk.2))⟩,⟨pK BK206.out⟩,⟨pB⟩⟩
         ·rw [if_neg c27] at H;have c27b0 : decide (0 ≤ a0_1) = false := decide_eq_false c27;clear c27;(first | rw [c27b0] | (simp only [i64_w,i32_w];rw [c27b0]) | rw [c27b1] | (simp only [i64_w,i32_w];rw [c27b1]) | skip);obtain ⟨t217,A32,H⟩ := oB H;(try dsimp only at H);have H' := am H;clear H;have q33 := cf2 BK206.out;obtain ⟨Ao34,co34,eo34⟩ := Kd.zQv HO213.out;subst eo34;(go_wp2_with (first | ((with_reducible refine zQb (f := 26) rfl ?_);refine zQi (some 50) rfl rfl Tryz.func26 (by kernel_rfl) rfl #[.slice Ao34 y211.length co34,.int .i64 (wrap64 (-a0_1))] rfl pM ?_;(with_reducible refine (b_tens.calls kj11 (fun k_ => some k_ = (.slice Ao34 y211.length co34 : Value).ownBlock) _ _ y211 (wrap64 (-a0_1)) t217 _ ?side1 A32.out).mono ?_);(case side1 => exact Kd.R_V (Kd.zXt rfl (Kd.zQY (HO213.out) BK206.out (by decide))));rintro e w35 ⟨v218,rfl,ho0,hb⟩;refine ⟨_,rfl,?_⟩;replace HO_3 := am (Kd.zQk (pV HO_3.out) hb);have HO219 := am (Kd.zQQ (Kd.zQh (ok' := fun k_ => k_ ≠ gb206) ho0 (fun k_ hk_ => Or.elim hk_ (fun hs_ => ((Kd.zQY (HO213.out) BK206.out (by decide)).1 k_ hs_.symm).2) (fun hn_ => (Kd.zQX (g := gb206) (o := .cells #[.string a0_0,.int .i64 a0_1] 32 (0,0)) (pK BK206.out) k_ hn_)))) (zQa pB));replace HO213 := am (Kd.zQw (pR HO213.out) hb);replace BK206 := am (pkb BK206.out hb);replace HB := bS hb;(try clear hb);(try clear ho0))));go_meet
          case rel => exact ⟨_,(x3_1),(t217),H',⟨by have := HK1.out;have := HJ11.out;first | omega | exact Nat.le_refl _⟩,⟨by (with_reducible repeat (first | apply Kd.zQp | apply Kd.zQm | apply Kd.zQq));exact Kd.zQh HO_3.out (fun _ hk => hk.1)⟩,⟨by (with_reducible repeat (first | apply Kd.zQp | apply Kd.zQm | apply Kd.zQq));exact HO219.out⟩,⟨pK BK206.out⟩,⟨pB⟩⟩
        case rest =>
         clear HC22;(try clear c1);(try clear c2);(try clear p2);(try clear c4);(try clear c4b0);(try clear c5);(try clear c5b0);(try clear c6);(try clear c6b0);(try clear p6);(try clear p7);(try clear q7);(try clear hx7);(try clear c11);(try clear c13);(try clear c13b0);(try clear c13b1);(try clear c13b2);(try clear c17);(try clear c18);(try clear c18b0);(try clear c24);(try clear c25);(try clear c26);(try clear c27);(try clear c27b0);(try clear c27b1);(try clear q16 q20 q23 q26 q29 q33 q3 q9);(try clear p2);(try clear p6);(try clear p7);(try clear q7);obtain ⟨kq,x3_21,x5_21,HA,HJ21,HO_3,HO_5,BK206,HB⟩ := hcut
         cases kq with
         | zero => exact absurd HA.out (by simp [dec_nearest.j2])
         | succ kj21 =>
          have H := HA.out;clear HA;simp only [dec_nearest.j2] at H;obtain ⟨t220,A36,H⟩ := oB H;(try dsimp only at H);obtain ⟨t221,A37,H⟩ := oB H;(try dsimp only at H);have HC38 := am H;clear H;obtain ⟨Ao39,co39,eo39⟩ := Kd.zQA HO_3.out;subst eo39
          go_upto_if 58 with (first | ((with_reducible refine zQb (f := 27) rfl ?_);refine zQi (some 52) rfl rfl Tryz.func27 (by kernel_rfl) rfl #[.slice Ao39 x3_21.length co39] rfl pM ?_;(with_reducible refine (b_len.calls _ _ x3_21 t220 _ ?side1 ?side2 A36.out).mono ?_);(case side1 => exact pC (Kd.zQg HO_3.out).2.2);(case side2 => exact (Kd.zQg HO_3.out).2.1);rintro e w' ⟨rfl,⟨nd,rfl⟩⟩;refine ⟨_,rfl,?_⟩;obtain ⟨Ao40,co40,eo40⟩ := Kd.zQA HO_5.out;subst eo40) | ((with_reducible refine zQb (f := 27) rfl ?_);refine zQi (some 54) rfl rfl Tryz.func27 (by kernel_rfl) rfl #[.slice Ao40 x5_21.length co40] rfl pM ?_;(with_reducible refine (b_len.calls _ _ x5_21 t221 _ ?side1 ?side2 A37.out).mono ?_);(case side1 => exact pC (Kd.zQg HO_5.out).2.2);(case side2 => exact (Kd.zQg HO_5.out).2.1);rintro e w' ⟨rfl,⟨nd,rfl⟩⟩;refine ⟨_,rfl,?_⟩))
          (try simp only [Act.put,List.setIfInBounds_toArray,List.set_cons_zero,List.set_cons_succ])
          go_cut [3,5] (fun v3 v5 wc => ∃ (kq : Nat) (x3_37 : List Int) (x5_37 : List Int),Aside0 (dec_nearest.j3 kq x3_37 x5_37 (wrap64 (63 - (wrap64 (t220 - t221)))) = some r) ∧ Aside0 (kq ≤ kj21) ∧ Aside0 (Kd.V (Kd.int .u32) 52 wc w.heap.size (fun k_ => k_ ≠ gb206) v3 x3_37) ∧ Aside0 (Kd.V (Kd.int .u32) 52 wc w.heap.size (fun k_ => k_ ≠ gb206) v5 x5_37) ∧ Aside0 (wc.heap[gb206]? = some (.cells #[.string a0_0,.int .i64 a0_1] 32 (0,0))) ∧ Aside0 (Below w.heap.size w wc))
          case first =>
           have H := HC38.out;clear HC38;by_cases c41 : (wrap64 (63 - (wrap64 (t220 - t221)))) ≥ 0
           ·rw [if_pos c41] at H;have c41b0 : decide (0 ≤ (wrap64 (63 - (wrap64 (t220 - t221))))) = true := decide_eq_true c41;clear c41;(first | rw [c41b0] | (simp only [i64_w,i32_w];rw [c41b0]) | rw [c41b1] | (simp only [i64_w,i32_w];rw [c41b1]) | skip);obtain ⟨t222,A42,H⟩ := oB H;(try dsimp only at H);have H' := am H;clear H;(go_wp2_with (first | ((with_reducible refine zQb (f := 28) rfl ?_);refine zQi (some 61) rfl rfl Tryz.func28 (by kernel_rfl) rfl #[.slice Ao39 x3_21.length co39,.int .i64 (wrap64 (63 - (wrap64 (t220 - t221))))] rfl pM ?_;(with_reducible refine (b_up.calls kj21 _ _ x3_21 (wrap64 (63 - (wrap64 (t220 - t221)))) t222 _ ?side1 ?side2 A42.out).mono ?_);(case side1 => exact pC (Kd.zQg HO_3.out).2.2);(case side2 => exact (Kd.zQg HO_3.out).2.1);rintro e w43 ⟨v223,rfl,ho0,hb⟩;refine ⟨_,rfl,?_⟩;replace HO_3 := am (Kd.zQH (pV HO_3.out) (Kd.zQn ho0) hb);replace HO_5 := am (Kd.zQH (pV HO_5.out) (Kd.zQn ho0) hb);have HO224 := am (Kd.zQr ho0 (zQa pB));replace BK206 := am (pkb BK206.out hb);replace HB := bS hb;(try clear hb);(try clear ho0))));go_meet
            case rel => exact ⟨_,(t222),(x5_21),H',⟨by have := HK1.out;have := HJ11.out;have := HJ21.out;first | omega | exact Nat.le_refl _⟩,⟨Kd.R_V (by (with_reducible repeat (first | apply Kd.zQo | apply Kd.zQj | apply Kd.zQs));exact Kd.zQu (Kd.zQY HO224.out BK206.out (by decide)) (fun _ hk => hk.2))⟩,⟨by (with_reducible repeat (first | apply Kd.zQp | apply Kd.zQm | apply Kd.zQq));exact Kd.zQh HO_5.out (fun _ hk => hk.1)⟩,⟨pK BK206.out⟩,⟨pB⟩⟩
           ·rw [if_neg c41] at H;have c41b0 : decide (0 ≤ (wrap64 (63 - (wrap64 (t220 - t221))))) = false := decide_eq_false c41;clear c41;(first | rw [c41b0] | (simp only [i64_w,i32_w];rw [c41b0]) | rw [c41b1] | (simp only [i64_w,i32_w];rw [c41b1]) | skip);obtain ⟨t225,A44,H⟩ := oB H;(try dsimp only at H);have H' := am H;clear H;(go_wp2_with (first | ((with_reducible refine zQb (f := 28) rfl ?_);refine zQi (some 65) rfl rfl Tryz.func28 (by kernel_rfl) rfl #[.slice Ao40 x5_21.length co40,.int .i64 (wrap64 (-(wrap64 (63 - (wrap64 (t220 - t221))))))] rfl pM ?_;(with_reducible refine (b_up.calls kj21 _ _ x5_21 (wrap64 (-(wrap64 (63 - (wrap64 (t220 - t221)))))) t225 _ ?side1 ?side2 A44.out).mono ?_);(case side1 => exact pC (Kd.zQg HO_5.out).2.2);(case side2 => exact (Kd.zQg HO_5.out).2.1);rintro e w45 ⟨v226,rfl,ho0,hb⟩;refine ⟨_,rfl,?_⟩;replace HO_3 := am (Kd.zQH (pV HO_3.out) (Kd.zQn ho0) hb);replace HO_5 := am (Kd.zQH (pV HO_5.out) (Kd.zQn ho0) hb);have HO227 := am (Kd.zQr ho0 (zQa pB));replace BK206 := am (pkb BK206.out hb);replace HB := bS hb;(try clear hb);(try clear ho0))));go_meet
            case rel => exact ⟨_,(x3_21),(t225),H',⟨by have := HK1.out;have := HJ11.out;have := HJ21.out;first | omega | exact Nat.le_refl _⟩,⟨by (with_reducible repeat (first | apply Kd.zQp | apply Kd.zQm | apply Kd.zQq));exact Kd.zQh HO_3.out (fun _ hk => hk.1)⟩,⟨Kd.R_V (by (with_reducible repeat (first | apply Kd.zQo | apply Kd.zQj | apply Kd.zQs));exact Kd.zQu (Kd.zQY HO227.out BK206.out (by decide)) (fun _ hk => hk.2))⟩,⟨pK BK206.out⟩,⟨pB⟩⟩
          case rest =>
           clear HC38;(try clear c1);(try clear c2);(try clear p2);(try clear c4);(try clear c4b0);(try clear c5);(try clear c5b0);(try clear c6);(try clear c6b0);(try clear p6);(try clear p7);(try clear q7);(try clear hx7);(try clear c11);(try clear c13);(try clear c13b0);(try clear c13b1);(try clear c13b2);(try clear c17);(try clear c18);(try clear c18b0);(try clear c24);(try clear c25);(try clear c26);(try clear c27);(try clear c27b0);(try clear c27b1);(try clear c28);(try clear c41);(try clear c41b0);(try clear c41b1);(try clear q16 q20 q23 q26 q29 q33 q3 q9);(try clear p2);(try clear p6);(try clear p7);(try clear q7);obtain ⟨kq,x3_37,x5_37,HA,HJ37,HO_3,HO_5,BK206,HB⟩ := hcut
           cases kq with
           | zero => exact absurd HA.out (by simp [dec_nearest.j3])
           | succ kj37 =>
            have H := HA.out;clear HA;simp only [dec_nearest.j3] at H;obtain ⟨⟨t228,t229⟩,A46,H⟩ := oB H;(try dsimp only at H);by_cases c47 : t229 = true
            ·subst c47;rw [if_pos rfl] at H;obtain ⟨t230,A48,H⟩ := oB H;(try dsimp only at H);obtain rfl := Option.some.inj H;obtain ⟨Ao49,co49,eo49⟩ := Kd.zQA HO_3.out;subst eo49;obtain ⟨Ao50,co50,eo50⟩ := Kd.zQA HO_5.out;subst eo50;go_wp2_with (first | ((with_reducible refine zQb (f := 29) rfl ?_);refine zQi (some 69) rfl rfl Tryz.func29 (by kernel_rfl) rfl #[.slice Ao49 x3_37.length co49,.slice Ao50 x5_37.length co50] rfl pM ?_;(with_reducible refine (b_by.calls kj37 (fun k_ => k_ ≠ gb206) _ _ x3_37 _ _ x5_37 t228 true _ ?side1 ?side2 ?side3 A46.out).mono ?_);(case side1 => exact HO_3.out);(case side2 => exact pC (Kd.zQg HO_5.out).2.2);(case side3 => exact (Kd.zQg HO_5.out).2.1);rintro e w51 ⟨rfl,hb⟩;refine ⟨_,rfl,?_⟩;replace HO_3 := am (Kd.zQk (pV HO_3.out) hb);replace HO_5 := am (Kd.zQk (pV HO_5.out) hb);replace BK206 := am (pkb BK206.out hb);replace HB := bS hb;(try clear hb)) | ((with_reducible refine zQb (f := 25) rfl ?_);refine zQi (some 78) rfl rfl Tryz.func25 (by kernel_rfl) rfl #[.bool false,.int .i64 (wrap64 (-(wrap64 (63 - (wrap64 (t220 - t221)))))),.int .u64 (Go.bits .or .u64 t228 1),.bool false] rfl pM ?_;(with_reducible refine (flo_Make.calls kj37 false (wrap64 (-(wrap64 (63 - (wrap64 (t220 - t221)))))) (Go.bits .or .u64 t228 1) false t230 _ A48.out).mono ?_);rintro e w52 ⟨rfl,hb⟩;refine ⟨_,rfl,?_⟩;replace HO_3 := am (Kd.zQk (pV HO_3.out) hb);replace HO_5 := am (Kd.zQk (pV HO_5.out) hb);replace BK206 := am (pkb BK206.out hb);replace HB := bS hb;(try clear hb)))
             go_ret
             exact ⟨pE,pB⟩
            ·replace c47 := Bool.eq_false_iff.mpr c47;subst c47;rw [if_neg (show ¬ (false = true) by decide)] at H;obtain ⟨t231,A53,H⟩ := oB H;(try dsimp only at H);obtain rfl := Option.some.inj H;obtain ⟨Ao54,co54,eo54⟩ := Kd.zQA HO_3.out;subst eo54;obtain ⟨Ao55,co55,eo55⟩ := Kd.zQA HO_5.out;subst eo55;go_wp2_with (first | ((with_reducible refine zQb (f := 29) rfl ?_);refine zQi (some 69) rfl rfl Tryz.func29 (by kernel_rfl) rfl #[.slice Ao54 x3_37.length co54,.slice Ao55 x5_37.length co55] rfl pM ?_;(with_reducible refine (b_by.calls kj37 (fun k_ => k_ ≠ gb206) _ _ x3_37 _ _ x5_37 t228 false _ ?side1 ?side2 ?side3 A46.out).mono ?_);(case side1 => exact HO_3.out);(case side2 => exact pC (Kd.zQg HO_5.out).2.2);(case side3 => exact (Kd.zQg HO_5.out).2.1);rintro e w56 ⟨rfl,hb⟩;refine ⟨_,rfl,?_⟩;replace HO_3 := am (Kd.zQk (pV HO_3.out) hb);replace HO_5 := am (Kd.zQk (pV HO_5.out) hb);replace BK206 := am (pkb BK206.out hb);replace HB := bS hb;(try clear hb)) | ((with_reducible refine zQb (f := 25) rfl ?_);refine zQi (some 78) rfl rfl Tryz.func25 (by kernel_rfl) rfl #[.bool false,.int .i64 (wrap64 (-(wrap64 (63 - (wrap64 (t220 - t221)))))),.int .u64 t228,.bool false] rfl pM ?_;(with_reducible refine (flo_Make.calls kj37 false (wrap64 (-(wrap64 (63 - (wrap64 (t220 - t221)))))) t228 false t231 _ A53.out).mono ?_);rintro e w57 ⟨rfl,hb⟩;refine ⟨_,rfl,?_⟩;replace HO_3 := am (Kd.zQk (pV HO_3.out) hb);replace HO_5 := am (Kd.zQk (pV HO_5.out) hb);replace BK206 := am (pkb BK206.out hb);replace HB := bS hb;(try clear hb)))
             go_ret
             exact ⟨pE,pB⟩
def dec_Parse.f (k : Nat) (a0 : ByteArray) : Option (Int × Int) := if (a0.size : Int) > 400 then (some (0,2)) else ((dec_cut.f k a0).bind fun bt232 => (if bt232.2.2 = true then ((dec_nearest.f k bt232.1 bt232.2.1).bind fun t236 => (some (t236,0))) else (some (0,4))))
theorem dec_Parse.mono : ∀ a0 k,LeO (dec_Parse.f k a0) (dec_Parse.f (k + 1) a0) := by
 intro a0 k;unfold dec_Parse.f
 repeat' first
   | (with_reducible exact dec_cut.mono _ _)
   | (with_reducible exact dec_nearest.mono _ _ _)
   | (with_reducible exact LeO.refl _)
   | (with_reducible exact LeO.none _)
   | (with_reducible refine LeO.ite ?_ ?_)
   | (with_reducible refine LeO.bind ?_ (fun _ => ?_))
   | exact dec_cut.mono _ _
   | exact dec_nearest.mono _ _ _
   | exact LeO.none _
   | refine LeO.ite ?_ ?_
   | refine LeO.bind ?_ (fun _ => ?_)
set_option maxHeartbeats 8000000 in
set_option maxRecDepth 100000 in
theorem dec_Parse.calls (k : Nat) (a0 : ByteArray) (r1 : Int) (r2 : Int) (w : World) (h : dec_Parse.f k a0 = some (r1,r2)) :
  Calls Tryz.prog 5 #[.string a0] w fun e w' => e = .returned (.tuple #[.int .u64 r1,.int .i64 r2]) ∧ Below w.heap.size w w' := by
 have hu32 := Tryz.underlying32;have HB := am (Below.refl w.heap.size w);have H : (if (a0.size : Int) > 400 then (some (0,2)) else ((dec_cut.f k a0).bind fun bt232 => (if bt232.2.2 = true then ((dec_nearest.f k bt232.1 bt232.2.1).bind fun t236 => (some (t236,0))) else (some (0,4))))) = some (r1,r2) := h;clear h;by_cases c2 : (a0.size : Int) > 400
 ·rw [if_pos c2] at H;have c2b0 : decide (400 < (a0.size : Int)) = true := decide_eq_true c2;have c2b1 : decide (400 < a0.size) = true := decide_eq_true (by omega);clear c2;simp only [Option.some.injEq,Prod.mk.injEq] at H;obtain ⟨rfl,rfl⟩ := H;go_enter Tryz.func5,Tryz.ntmps5;go_wp2;go_ret2;exact ⟨pE,pB⟩
 ·rw [if_neg c2] at H;have c2b0 : decide (400 < (a0.size : Int)) = false := decide_eq_false c2;have c2b1 : decide (400 < a0.size) = false := decide_eq_false (by omega);clear c2;obtain ⟨⟨t232,t233,t234⟩,A3,H⟩ := oB H;(try dsimp only at H);by_cases c4 : t234 = true
  ·subst c4;rw [if_pos rfl] at H;obtain ⟨t236,A5,H⟩ := oB H;(try dsimp only at H);simp only [Option.some.injEq,Prod.mk.injEq] at H;obtain ⟨rfl,rfl⟩ := H;go_enter Tryz.func5,Tryz.ntmps5;(go_wp2_with (first | ((with_reducible refine zQb (f := 10) rfl ?_);refine zQi (some 11) rfl rfl Tryz.func10 (by kernel_rfl) rfl #[.string a0] rfl pM ?_;(with_reducible refine (dec_cut.calls k a0 t232 t233 true _ A3.out).mono ?_);rintro e w6 ⟨rfl,hb⟩;refine ⟨_,rfl,?_⟩;replace HB := bS hb;(try clear hb)) | ((with_reducible refine zQE (N := 4) rfl ?_);refine zXM ?hg (N := 4) ?hd (cs := #[.string (⟨#[]⟩ : ByteArray),.int .i64 0]) (t := 32) ?hr ?_;(case hd => rfl);(case hg => rfl);(case hr => first | (go_simp;done) | (go_simp;rfl));intro gb235 hg w7 hbox hb;have BK235 := am (hbox);have GW235 := am ((by rw [hg];exact (zQa pB) : w.heap.size ≤ gb235));have GE235 := am ((by rw [hg];exact (zQa pB) : w.heap.size ≤ gb235));replace HB := bS hb;clear hb hbox hg;have q8 := cf2 BK235.out) | ((with_reducible refine zQb (f := 11) rfl ?_);refine zQi (some 17) rfl rfl Tryz.func11 (by kernel_rfl) rfl #[.agg #[.string t232,.int .i64 t233]] rfl pM ?_;(with_reducible refine (dec_nearest.calls k t232 t233 t236 _ A5.out).mono ?_);rintro e w9 ⟨rfl,hb⟩;refine ⟨_,rfl,?_⟩;replace BK235 := am (zKu (g := gb235) (o := .cells #[.string t232,.int .i64 t233] 32 (0,0)) (by (with_reducible repeat (first | refine zQc ?_ _ | refine zQf ?_ | refine zQd ?_ _));refine zQC (cs := #[.string t232,.int .i64 0]) ?_ 1 _ rfl;(with_reducible repeat (first | refine zQc ?_ _ | refine zQf ?_ | refine zQd ?_ _));refine zQC (cs := #[.string (⟨#[]⟩ : ByteArray),.int .i64 0]) ?_ 0 _ rfl;(with_reducible repeat (first | refine zQc ?_ _ | refine zQf ?_ | refine zQd ?_ _));exact BK235.out) hb);replace HB := bS hb;(try clear hb))));go_ret2;exact ⟨pE,pB⟩
  ·replace c4 := Bool.eq_false_iff.mpr c4;subst c4;rw [if_neg (show ¬ (false = true) by decide)] at H;simp only [Option.some.injEq,Prod.mk.injEq] at H;obtain ⟨rfl,rfl⟩ := H;go_enter Tryz.func5,Tryz.ntmps5;(go_wp2_with (first | ((with_reducible refine zQb (f := 10) rfl ?_);refine zQi (some 11) rfl rfl Tryz.func10 (by kernel_rfl) rfl #[.string a0] rfl pM ?_;(with_reducible refine (dec_cut.calls k a0 t232 t233 false _ A3.out).mono ?_);rintro e w10 ⟨rfl,hb⟩;refine ⟨_,rfl,?_⟩;replace HB := bS hb;(try clear hb)) | ((with_reducible refine zQE (N := 4) rfl ?_);refine zXM ?hg (N := 4) ?hd (cs := #[.string (⟨#[]⟩ : ByteArray),.int .i64 0]) (t := 32) ?hr ?_;(case hd => rfl);(case hg => rfl);(case hr => first | (go_simp;done) | (go_simp;rfl));intro gb235 hg w11 hbox hb;have BK235 := am (hbox);have GW235 := am ((by rw [hg];exact (zQa pB) : w.heap.size ≤ gb235));have GE235 := am ((by rw [hg];exact (zQa pB) : w.heap.size ≤ gb235));replace HB := bS hb;clear hb hbox hg;have q12 := cf2 BK235.out)));go_ret2;exact ⟨pE,pB⟩
end Go.Proofs.YtflcanpajgpghaaGreatDoor.Pr
end
section
namespace Go.Proofs.YtflcanpajgpghaaGreatDoor.Pr
open Go.RowKit Go.Proofs.YtflcanpajgpghaaGreatDoorW.PrintWords Go.Proofs.YtflcanpajgpghaaGreatDoorW.PrintLast Go.Proofs.YtflcanpajgpghaaGreatDoorW.PrintMore
attribute [local go_sem] zXe zXc zXn zXm zQV zQU zXd zXb
def r1_Trim.l0 : Nat → List Int → Int → Option (List Int)
 | 0,_,_ => none
 | k + 1,x0,x3 => if x3 > 0 then (if 0 ≤ (wrap64 (x3 - 1)) then (if (wrap64 (x3 - 1)) < (x0.length : Int) then (if (rd x0 (wrap64 (x3 - 1))) = 0 then (r1_Trim.l0 k x0 (wrap64 (x3 - 1))) else ((some (([] : List Int) : List Int)).bind fun y243 => (if 0 ≤ x3 then (if x3 ≤ (x0.length : Int) then (if y243.length + (x0.take (x3 : Int).toNat).length < 17592186044416 then (some (y243 ++ (x0.take (x3 : Int).toNat))) else (none)) else (none)) else (none)))) else (none)) else (none)) else ((some (([] : List Int) : List Int)).bind fun y250 => (if 0 ≤ x3 then (if x3 ≤ (x0.length : Int) then (if y250.length + (x0.take (x3 : Int).toNat).length < 17592186044416 then (some (y250 ++ (x0.take (x3 : Int).toNat))) else (none)) else (none)) else (none)))
def r1_Trim.f (k : Nat) (l0 : List Int) : Option (List Int) := r1_Trim.l0 k l0 (l0.length : Int)
set_option maxHeartbeats 8000000 in
set_option maxRecDepth 100000 in
theorem r1_Trim.calls (k : Nat) (A0 : Option Addr) (c0 : Nat) (l0 : List Int) (r : List Int) (w : World) (hr0 : Kd.C (Kd.int .u64) w A0 l0.length l0) (hc0 : l0.length ≤ c0) (h : r1_Trim.f k l0 = some r) :
  Calls Tryz.prog 65 #[.slice A0 l0.length c0] w fun e w' => ∃ v0_ : Value,e = .returned (v0_) ∧ Kd.R (Kd.int .u64) 22 w' w.heap.size (fun _ => True) v0_ r ∧ Below w.heap.size w w' := by
 have HR0 := am hr0;have HC0 := am hc0;clear hr0 hc0;have HB := am (Below.refl w.heap.size w);have H : (r1_Trim.l0 k l0 (l0.length : Int)) = some r := h;clear h;have H' := am H;clear H;go_enter Tryz.func65,Tryz.ntmps65;go_wp2
 go_loopg [3] k (fun kq v3 w' => ∃ (x3_1 : Int),v3 = .int .i64 x3_1 ∧ Aside0 (r1_Trim.l0 kq l0 x3_1 = some r) ∧ Aside0 (kq ≤ k) ∧ Aside0 (Below w.heap.size w w'))
 case atStart => exact ⟨((l0.length : Int)),pS,H',⟨Nat.le_refl _⟩,⟨pB⟩⟩
 case round =>
  clear H';obtain ⟨x3_1,rfl,HA,HK1,HB⟩ := hrel
  cases gk with
  | zero => exact absurd HA.out (by simp [r1_Trim.l0])
  | succ k1 =>
   have H := HA.out;clear HA;simp only [r1_Trim.l0] at H;by_cases c2 : x3_1 > 0
   ·rw [if_pos c2] at H;have c2b0 : decide (0 < x3_1) = true := decide_eq_true c2;clear c2;obtain ⟨ji3,hji3⟩ : ∃ j_ : Int,(wrap64 (x3_1 - 1)) = j_ := ⟨_,rfl⟩;(replace H : (if 0 ≤ (ji3) then (if (ji3) < (l0.length : Int) then (if (rd l0 (ji3)) = 0 then (r1_Trim.l0 k1 l0 ji3) else ((some (([] : List Int) : List Int)).bind fun y243 => (if 0 ≤ x3_1 then (if x3_1 ≤ (l0.length : Int) then (if y243.length + (l0.take (x3_1 : Int).toNat).length < 17592186044416 then (some (y243 ++ (l0.take (x3_1 : Int).toNat))) else (none)) else (none)) else (none)))) else (none)) else (none)) = some r := by first | (rw [hji3] at H;exact H) | (simp only [hji3] at H ⊢;exact H));have hji3w : (IntKind.i64.wrap (x3_1 - 1)) = ji3 := (i64_w _).trans hji3;by_cases c4 : 0 ≤ (ji3)
    ·rw [if_pos c4] at H;have c4b0 : decide (0 ≤ (ji3)) = true := decide_eq_true c4;clear c4;by_cases c5 : (ji3) < (l0.length : Int)
     ·rw [if_pos c5] at H;have c5b0 : decide ((ji3) < (l0.length : Int)) = true := decide_eq_true c5;clear c5;by_cases c6 : (rd l0 (ji3)) = 0
      ·rw [if_pos c6] at H;have c6b0 : ((rd l0 (ji3)) == 0) = true := beq_iff_eq.mpr c6;have c6b1 : ((rd l0 (ji3)) != 0) = false := bne_eq_false_iff_eq.mpr c6;clear c6;have H' := am H;clear H;have p242 : 0 ≤ ((ji3) : Int) := pD;have q242 : (ji3) < (l0.length : Int) := pD;obtain ⟨ad242,e242,hx242_0⟩ := Kd.zXg HR0.out (ji3) p242 q242
       cases e242
       replace hx242_0 := (HB.out.cell (World.block_lt_of_cell? w _ hx242_0)).trans hx242_0;replace p242 := eq_true p242;replace q242 := eq_true q242;go_wp2
       go_roundg k1
       case measure => have := HK1.out;omega
       case rel => exact ⟨(ji3),(by first | rfl | (simp;done) | (simp only [← hji3] <;> (first | rfl | simp)) | (simp [*];done)),H',⟨by have := HK1.out;omega⟩,⟨pB⟩⟩
      ·rw [if_neg c6] at H;have c6b0 : ((rd l0 (ji3)) == 0) = false := beq_eq_false_iff_ne.mpr c6;have c6b1 : ((rd l0 (ji3)) != 0) = true := bne_iff_ne.mpr c6;obtain ⟨y243,hy243⟩ : ∃ y_ : List Int,y_ = (([] : List Int)) := ⟨_,rfl⟩;(replace H : (if 0 ≤ x3_1 then (if x3_1 ≤ (l0.length : Int) then (if y243.length + (l0.take (x3_1 : Int).toNat).length < 17592186044416 then (some (y243 ++ (l0.take (x3_1 : Int).toNat))) else (none)) else (none)) else (none)) = some r := by first | (rw [hy243];with_reducible exact H) | (have H2_ := (Option.bind_some _ _).symm.trans H;rw [hy243];with_reducible exact H2_) | (have H2_ := (Option.bind_some _ _).symm.trans H;with_reducible exact H2_) | with_reducible exact H | (rw [hy243];exact H) | exact H);have Ny243 := am hy243;clear hy243;by_cases c7 : 0 ≤ x3_1
       ·rw [if_pos c7] at H;have c7b0 := eq_true c7;have c7b1 : decide (0 ≤ x3_1) = true := decide_eq_true c7;clear c7;by_cases c8 : x3_1 ≤ (l0.length : Int)
        ·rw [if_pos c8] at H;have c8b0 := eq_true c8;have c8b1 : decide (x3_1 ≤ (l0.length : Int)) = true := decide_eq_true c8;clear c8;by_cases c9 : y243.length + (l0.take (x3_1 : Int).toNat).length < 17592186044416
         ·rw [if_pos c9] at H;have LMc9 := am c9;clear c9;obtain ⟨y247,hy247⟩ : ∃ y_ : List Int,y_ = (y243 ++ (l0.take (x3_1 : Int).toNat)) := ⟨_,rfl⟩;(replace H : (some y247) = some r := by first | (rw [hy247];with_reducible exact H) | (have H2_ := (Option.bind_some _ _).symm.trans H;rw [hy247];with_reducible exact H2_) | (have H2_ := (Option.bind_some _ _).symm.trans H;with_reducible exact H2_) | with_reducible exact H | (rw [hy247];exact H) | exact H);have Ny247 := am hy247;clear hy247;obtain rfl := Option.some.inj H;have p242 : 0 ≤ ((ji3) : Int) := pD;have q242 : (ji3) < (l0.length : Int) := pD;obtain ⟨ad242,e242,hx242_0⟩ := Kd.zXg HR0.out (ji3) p242 q242
          cases e242
          replace hx242_0 := (HB.out.cell (World.block_lt_of_cell? w _ hx242_0)).trans hx242_0;replace p242 := eq_true p242;replace q242 := eq_true q242;go_wp2_with (first | ((with_reducible refine zQE (N := 18) rfl ?_);refine Kd.R_lit (Kd.int .u64) _ 22 ?hg (N := 18) ?hd (xs := ([] : List Int)) (inner := []) (ok := fun _ => True) (okp := fun _ => True) ?hr ?hp (fun _ hk => hk) trivial (Below.refl _ _) (Nat.le_refl _) (by simp) ?_;(case hd => rfl);(case hg => rfl);(case hr => first | (go_simp;done) | (go_simp;rfl));(case hp => exact (Reps.none _ _));intro v244 w10 ho11 hb hg_ hnew_;clear hg_ hnew_;(first | rw [← Ny243.out] at ho11 | (simp only [Int.reduceToNat] at ho11;rw [← Ny243.out] at ho11));have HO245 := am (Kd.zQr ho11 (zQa pB));replace HB := bS hb;clear hb ho11;obtain ⟨i012,hi012,_,hsz12,_⟩ := info_parts zXW;obtain ⟨hcut12,hA12,hC12⟩ := zZp (P := Tryz.prog) (Value.int .u64) 0 59 22 .i64 Tryz.underlying59 hi012 hsz12 (some ad242) c0 l0 x3_1 pD pD HC0.out;have HR246 := am (Kd.zKY (h1 := fun _ => rfl) (hA12 _ (Kd.zZz HR0.out)));have HC246 := am hC12;clear hA12 hC12 hi012 hsz12) | ((with_reducible refine zQz (b := .append) (xs := #[.tmp 18,.tmp 21]) rfl ?_);at_builtin;refine Kd.zXG (Kd.int .u64) (w0 := w) w.heap.size rfl (.tmp 18) (.tmp 21) 59 22 (.int .u64 0) 8 rfl Tryz.underlying59 zXW rfl (by decide) (by omega) v244 y243 (l0.take (x3_1 : Int).toNat) _ _ _ (fun _ => True) (fun _ => False) rfl rfl ?aO ?aR (fun _ _ h => h) (fun _ h => h.elim) ?aF ?aB ?aS ?aL ?_;(case aR => first | (have h9_ := (Kd.zQF HR246.out HB.out);rw [show (l0.take (x3_1 : Int).toNat).length = x3_1.toNat from (by rw [List.length_take];have h_ : (x3_1 : Int) ≤ (l0.length : Int) := pD;omega)] at h9_;exact h9_) | (rw [← show (l0.take (x3_1 : Int).toNat).length = x3_1.toNat from (by rw [List.length_take];have h_ : (x3_1 : Int) ≤ (l0.length : Int) := pD;omega)];exact pC (Kd.zQF HR246.out HB.out)) | (exact pC (Kd.zQF HR246.out HB.out)));(case aB => exact pB);(case aF => exact (fun _ _ => trivial));(case aO => exact (pR HO245.out));(case aS => exact (zQa pB));(case aL => have := LMc9.out;have hlx_ := (show (l0.take (x3_1 : Int).toNat).length = x3_1.toNat from (by rw [List.length_take];have h_ : (x3_1 : Int) ≤ (l0.length : Int) := pD;omega));omega);intro v248 w13 ho hb hg hat;rw [← Ny247.out] at ho;replace HB := am (hb);have HO249 := am (ho);clear HO245;clear ho hb hg hat))
          go_ret
          exact ⟨_,by first | rfl | (simp [zQy,zQx] <;> rfl) | (simp only [← hji3];first | rfl | (simp [zQy,zQx] <;> rfl)) | (simp [*,zQy,zQx] <;> rfl),by (with_reducible repeat (first | apply Kd.zQo | apply Kd.zQj | apply Kd.zQs));exact HO249.out,pB⟩
         ·rw [if_neg c9] at H
          cases H
        ·rw [if_neg c8] at H
         cases H
       ·rw [if_neg c7] at H
        cases H
     ·rw [if_neg c5] at H
      cases H
    ·rw [if_neg c4] at H
     cases H
   ·rw [if_neg c2] at H;have c2b0 : decide (0 < x3_1) = false := decide_eq_false c2;clear c2;obtain ⟨y250,hy250⟩ : ∃ y_ : List Int,y_ = (([] : List Int)) := ⟨_,rfl⟩;(replace H : (if 0 ≤ x3_1 then (if x3_1 ≤ (l0.length : Int) then (if y250.length + (l0.take (x3_1 : Int).toNat).length < 17592186044416 then (some (y250 ++ (l0.take (x3_1 : Int).toNat))) else (none)) else (none)) else (none)) = some r := by first | (rw [hy250];with_reducible exact H) | (have H2_ := (Option.bind_some _ _).symm.trans H;rw [hy250];with_reducible exact H2_) | (have H2_ := (Option.bind_some _ _).symm.trans H;with_reducible exact H2_) | with_reducible exact H | (rw [hy250];exact H) | exact H);have Ny250 := am hy250;clear hy250;by_cases c14 : 0 ≤ x3_1
    ·rw [if_pos c14] at H;have c14b0 := eq_true c14;have c14b1 : decide (0 ≤ x3_1) = true := decide_eq_true c14;clear c14;by_cases c15 : x3_1 ≤ (l0.length : Int)
     ·rw [if_pos c15] at H;have c15b0 := eq_true c15;have c15b1 : decide (x3_1 ≤ (l0.length : Int)) = true := decide_eq_true c15;clear c15;by_cases c16 : y250.length + (l0.take (x3_1 : Int).toNat).length < 17592186044416
      ·rw [if_pos c16] at H;have LMc16 := am c16;clear c16;obtain ⟨y254,hy254⟩ : ∃ y_ : List Int,y_ = (y250 ++ (l0.take (x3_1 : Int).toNat)) := ⟨_,rfl⟩;(replace H : (some y254) = some r := by first | (rw [hy254];with_reducible exact H) | (have H2_ := (Option.bind_some _ _).symm.trans H;rw [hy254];with_reducible exact H2_) | (have H2_ := (Option.bind_some _ _).symm.trans H;with_reducible exact H2_) | with_reducible exact H | (rw [hy254];exact H) | exact H);have Ny254 := am hy254;clear hy254;obtain rfl := Option.some.inj H;go_wp2_with (first | ((with_reducible refine zQE (N := 18) rfl ?_);refine Kd.R_lit (Kd.int .u64) _ 22 ?hg (N := 18) ?hd (xs := ([] : List Int)) (inner := []) (ok := fun _ => True) (okp := fun _ => True) ?hr ?hp (fun _ hk => hk) trivial (Below.refl _ _) (Nat.le_refl _) (by simp) ?_;(case hd => rfl);(case hg => rfl);(case hr => first | (go_simp;done) | (go_simp;rfl));(case hp => exact (Reps.none _ _));intro v251 w17 ho18 hb hg_ hnew_;clear hg_ hnew_;(first | rw [← Ny250.out] at ho18 | (simp only [Int.reduceToNat] at ho18;rw [← Ny250.out] at ho18));have HO252 := am (Kd.zQr ho18 (zQa pB));replace HB := bS hb;clear hb ho18;obtain ⟨i019,hi019,_,hsz19,_⟩ := info_parts zXW;obtain ⟨hcut19,hA19,hC19⟩ := zZp (P := Tryz.prog) (Value.int .u64) 0 59 22 .i64 Tryz.underlying59 hi019 hsz19 A0 c0 l0 x3_1 pD pD HC0.out;have HR253 := am (Kd.zKY (h1 := fun _ => rfl) (hA19 _ (Kd.zZz HR0.out)));have HC253 := am hC19;clear hA19 hC19 hi019 hsz19) | ((with_reducible refine zQz (b := .append) (xs := #[.tmp 18,.tmp 21]) rfl ?_);at_builtin;refine Kd.zXG (Kd.int .u64) (w0 := w) w.heap.size rfl (.tmp 18) (.tmp 21) 59 22 (.int .u64 0) 8 rfl Tryz.underlying59 zXW rfl (by decide) (by omega) v251 y250 (l0.take (x3_1 : Int).toNat) _ _ _ (fun _ => True) (fun _ => False) rfl rfl ?aO ?aR (fun _ _ h => h) (fun _ h => h.elim) ?aF ?aB ?aS ?aL ?_;(case aR => first | (have h9_ := (Kd.zQF HR253.out HB.out);rw [show (l0.take (x3_1 : Int).toNat).length = x3_1.toNat from (by rw [List.length_take];have h_ : (x3_1 : Int) ≤ (l0.length : Int) := pD;omega)] at h9_;exact h9_) | (rw [← show (l0.take (x3_1 : Int).toNat).length = x3_1.toNat from (by rw [List.length_take];have h_ : (x3_1 : Int) ≤ (l0.length : Int) := pD;omega)];exact pC (Kd.zQF HR253.out HB.out)) | (exact pC (Kd.zQF HR253.out HB.out)));(case aB => exact pB);(case aF => exact (fun _ _ => trivial));(case aO => exact (pR HO252.out));(case aS => exact (zQa pB));(case aL => have := LMc16.out;have hlx_ := (show (l0.take (x3_1 : Int).toNat).length = x3_1.toNat from (by rw [List.length_take];have h_ : (x3_1 : Int) ≤ (l0.length : Int) := pD;omega));omega);intro v255 w20 ho hb hg hat;rw [← Ny254.out] at ho;replace HB := am (hb);have HO256 := am (ho);clear HO252;clear ho hb hg hat))
       go_ret
       exact ⟨_,pE,by (with_reducible repeat (first | apply Kd.zQo | apply Kd.zQj | apply Kd.zQs));exact HO256.out,pB⟩
      ·rw [if_neg c16] at H
       cases H
     ·rw [if_neg c15] at H
      cases H
    ·rw [if_neg c14] at H
     cases H
mutual
def r1_Product.l0 : Nat → List Int → List Int → List Int → Int → Option (List Int)
 | 0,_,_,_,_ => none
 | k + 1,x0,x1,x5,x6 => if x6 < (x0.length : Int) then (r1_Product.l1 k x0 x1 x5 x6 0 0) else ((r1_Trim.f k x5).bind fun t260 => (some t260))
def r1_Product.l1 : Nat → List Int → List Int → List Int → Int → Int → Int → Option (List Int)
 | 0,_,_,_,_,_,_ => none
 | k + 1,x0,x1,x5,x6,x7,x8 => if x8 < (x1.length : Int) then (if 0 ≤ (wrap64 (x6 + x8)) then (if (wrap64 (x6 + x8)) < (x5.length : Int) then (if 0 ≤ x6 then (if x6 < (x0.length : Int) then (if 0 ≤ x8 then (r1_Product.l1 k x0 x1 (x5.set ((wrap64 (x6 + x8)) : Int).toNat (Go.bits .and .u64 (IntKind.u64.wrap ((IntKind.u64.wrap ((rd x5 (wrap64 (x6 + x8))) + (IntKind.u64.wrap ((rd x0 x6) * (rd x1 x8))))) + x7)) 65535)) x6 ((IntKind.u64.wrap ((IntKind.u64.wrap ((rd x5 (wrap64 (x6 + x8))) + (IntKind.u64.wrap ((rd x0 x6) * (rd x1 x8))))) + x7)) / 65536) (wrap64 (x8 + 1))) else (none)) else (none)) else (none)) else (none)) else (none)) else (if 0 ≤ (wrap64 (x6 + (x1.length : Int))) then (if (wrap64 (x6 + (x1.length : Int))) < (x5.length : Int) then (r1_Product.l0 k x0 x1 (x5.set ((wrap64 (x6 + (x1.length : Int))) : Int).toNat x7) (wrap64 (x6 + 1))) else (none)) else (none))
end
def r1_Product.f (k : Nat) (l0 : List Int) (l1 : List Int) : Option (List Int) := if 0 ≤ (wrap64 ((l0.length : Int) + (l1.length : Int))) then (if (wrap64 ((l0.length : Int) + (l1.length : Int)) : Int).toNat ≤ 35184372088832 then (r1_Product.l0 k l0 l1 (List.replicate (wrap64 ((l0.length : Int) + (l1.length : Int)) : Int).toNat 0) 0) else (none)) else (none)
set_option maxHeartbeats 8000000 in
set_option maxRecDepth 100000 in
theorem r1_Product.calls (k : Nat) (A0 : Option Addr) (c0 : Nat) (l0 : List Int) (A1 : Option Addr) (c1 : Nat) (l1 : List Int) (r : List Int) (w : World) (hr0 : Kd.C (Kd.int .u64) w A0 l0.length l0) (hc0 : l0.length ≤ c0) (hr1 : Kd.C (Kd.int .u64) w A1 l1.length l1) (hc1 : l1.length ≤ c1) (h : r1_Product.f k l0 l1 = some r) :
  Calls Tryz.prog 34 #[.slice A0 l0.length c0,.slice A1 l1.length c1] w fun e w' => ∃ v0_ : Value,e = .returned (v0_) ∧ Kd.R (Kd.int .u64) 22 w' w.heap.size (fun _ => True) v0_ r ∧ Below w.heap.size w w' := by
 have HR0 := am hr0;have HC0 := am hc0;clear hr0 hc0;have HR1 := am hr1;have HC1 := am hc1;clear hr1 hc1;have HB := am (Below.refl w.heap.size w);have H : (if 0 ≤ (wrap64 ((l0.length : Int) + (l1.length : Int))) then (if (wrap64 ((l0.length : Int) + (l1.length : Int)) : Int).toNat ≤ 35184372088832 then (r1_Product.l0 k l0 l1 (List.replicate (wrap64 ((l0.length : Int) + (l1.length : Int)) : Int).toNat 0) 0) else (none)) else (none)) = some r := h;clear h;obtain ⟨ji3,hji3⟩ : ∃ j_ : Int,(wrap64 ((l0.length : Int) + (l1.length : Int))) = j_ := ⟨_,rfl⟩;(replace H : (if 0 ≤ (ji3) then (if (ji3 : Int).toNat ≤ 35184372088832 then (r1_Product.l0 k l0 l1 (List.replicate (ji3 : Int).toNat 0) 0) else (none)) else (none)) = some r := by first | (rw [hji3] at H;exact H) | (simp only [hji3] at H ⊢;exact H));have hji3w : (IntKind.i64.wrap ((l0.length : Int) + (l1.length : Int))) = ji3 := (i64_w _).trans hji3;by_cases c4 : 0 ≤ (ji3)
 ·rw [if_pos c4] at H;have c4b0 := eq_true c4;have c4b1 : decide (0 ≤ (ji3)) = true := decide_eq_true c4;clear c4;by_cases c5 : (ji3 : Int).toNat ≤ 35184372088832
  ·rw [if_pos c5] at H;have c5b0 := eq_true c5;have c5b1 : decide ((ji3 : Int).toNat ≤ 35184372088832) = true := decide_eq_true c5;clear c5;obtain ⟨y257,hy257⟩ : ∃ y_ : List Int,y_ = (List.replicate (ji3 : Int).toNat 0) := ⟨_,rfl⟩;(replace H : (r1_Product.l0 k l0 l1 y257 0) = some r := by first | (rw [hy257];with_reducible exact H) | (have H2_ := (Option.bind_some _ _).symm.trans H;rw [hy257];with_reducible exact H2_) | (have H2_ := (Option.bind_some _ _).symm.trans H;with_reducible exact H2_) | with_reducible exact H | (rw [hy257];exact H) | exact H);have Ny257 := am hy257;clear hy257;have H' := am H;clear H;go_enter Tryz.func34,Tryz.ntmps34;(go_wp2_with (first | ((with_reducible refine zQE (N := 15) rfl ?_);refine Kd.zJq (Kd.int .u64) _ 22 rfl (N := 15) rfl 59 _ _ rfl ji3 rfl rfl Tryz.underlying59 (.int .u64 0) 8 zXW rfl (by decide) (by omega) 0 (ok := fun _ => True) (okp := fun _ => True) rfl (fun _ hk => hk) trivial pD (Nat.le_trans (Nat.mul_le_mul_right _ (pD : ji3.toNat ≤ 35184372088832)) (by omega)) (Below.refl _ _) (Nat.le_refl _) ?_;intro v258 w6 ho7 hb hg_ hnew_;clear hg_ hnew_;(first | rw [← Ny257.out] at ho7 | (simp only [Int.reduceToNat] at ho7;rw [← Ny257.out] at ho7));have HO259 := am (Kd.zQr ho7 (zQa pB));replace HB := bS hb;clear hb ho7)));repeat (go_quiet (first | ((with_reducible refine zQE (N := 15) rfl ?_);refine Kd.zJq (Kd.int .u64) _ 22 rfl (N := 15) rfl 59 _ _ rfl ji3 rfl rfl Tryz.underlying59 (.int .u64 0) 8 zXW rfl (by decide) (by omega) 0 (ok := fun _ => True) (okp := fun _ => True) rfl (fun _ hk => hk) trivial pD (Nat.le_trans (Nat.mul_le_mul_right _ (pD : ji3.toNat ≤ 35184372088832)) (by omega)) (Below.refl _ _) (Nat.le_refl _) ?_;intro v258 w6 ho7 hb hg_ hnew_;clear hg_ hnew_;(first | rw [← Ny257.out] at ho7 | (simp only [Int.reduceToNat] at ho7;rw [← Ny257.out] at ho7));have HO259 := am (Kd.zQr ho7 (zQa pB));replace HB := bS hb;clear hb ho7));try go_wp2_with (first | ((with_reducible refine zQE (N := 15) rfl ?_);refine Kd.zJq (Kd.int .u64) _ 22 rfl (N := 15) rfl 59 _ _ rfl ji3 rfl rfl Tryz.underlying59 (.int .u64 0) 8 zXW rfl (by decide) (by omega) 0 (ok := fun _ => True) (okp := fun _ => True) rfl (fun _ hk => hk) trivial pD (Nat.le_trans (Nat.mul_le_mul_right _ (pD : ji3.toNat ≤ 35184372088832)) (by omega)) (Below.refl _ _) (Nat.le_refl _) ?_;intro v258 w6 ho7 hb hg_ hnew_;clear hg_ hnew_;(first | rw [← Ny257.out] at ho7 | (simp only [Int.reduceToNat] at ho7;rw [← Ny257.out] at ho7));have HO259 := am (Kd.zQr ho7 (zQa pB));replace HB := bS hb;clear hb ho7)))
   go_loopg [6] k (fun kq v6 w' => ∃ (x5_1 : List Int) (x6_1 : Int),v6 = .int .i64 x6_1 ∧ Aside0 (r1_Product.l0 kq l0 l1 x5_1 x6_1 = some r) ∧ Aside0 (kq ≤ k) ∧ Aside0 (Kd.R (Kd.int .u64) 22 w' w.heap.size (fun _ => True) v258 x5_1) ∧ Aside0 (Below w.heap.size w w'))
   case atStart => exact ⟨(y257),(0),pS,H',⟨Nat.le_refl _⟩,⟨by (with_reducible repeat (first | apply Kd.zQo | apply Kd.zQj | apply Kd.zQs));exact HO259.out⟩,⟨pB⟩⟩
   case round =>
    clear H';(try clear c1);(try clear p2);(try clear c3);(try clear c4);(try clear c4b0);(try clear c4b1);(try clear c5);(try clear c5b0);(try clear c5b1);(try clear p6);obtain ⟨x5_1,x6_1,rfl,HA,HK1,HO_5,HB⟩ := hrel
    cases gk with
    | zero => exact absurd HA.out (by simp [r1_Product.l0])
    | succ k1 =>
     have H := HA.out;clear HA;simp only [r1_Product.l0] at H;by_cases c8 : x6_1 < (l0.length : Int)
     ·rw [if_pos c8] at H;have c8b0 : decide (x6_1 < (l0.length : Int)) = true := decide_eq_true c8;clear c8;have H' := am H;clear H;go_wp2;repeat (go_quiet (fail);try go_wp2)
      go_loopg [7,8] k1 (fun kq v7 v8 w' => ∃ (x5_2 : List Int) (x7_2 : Int) (x8_2 : Int),v7 = .int .u64 x7_2 ∧ v8 = .int .i64 x8_2 ∧ Aside0 (r1_Product.l1 kq l0 l1 x5_2 x6_1 x7_2 x8_2 = some r) ∧ Aside0 (kq ≤ k1) ∧ Aside0 (Kd.R (Kd.int .u64) 22 w' w.heap.size (fun _ => True) v258 x5_2) ∧ Aside0 (Below w.heap.size w w'))
      case atStart => exact ⟨(x5_1),(0),(0),pS,pS,H',⟨Nat.le_refl _⟩,⟨by (with_reducible repeat (first | apply Kd.zQo | apply Kd.zQj | apply Kd.zQs));exact HO_5.out⟩,⟨pB⟩⟩
      case round =>
       clear H';(try clear c1);(try clear p2);(try clear c3);(try clear c4);(try clear c4b0);(try clear c4b1);(try clear c5);(try clear c5b0);(try clear c5b1);(try clear p6);(try clear c8);(try clear c8b0);(try clear p2);(try clear p6);obtain ⟨x5_2,x7_2,x8_2,rfl,rfl,HA,HK2,HO_5,HB⟩ := hrel
       cases gk with
       | zero => exact absurd HA.out (by simp [r1_Product.l1])
       | succ k2 =>
        have H := HA.out;clear HA;simp only [r1_Product.l1] at H;by_cases c9 : x8_2 < (l1.length : Int)
        ·rw [if_pos c9] at H;have c9b0 : decide (x8_2 < (l1.length : Int)) = true := decide_eq_true c9;clear c9;obtain ⟨ji10,hji10⟩ : ∃ j_ : Int,(wrap64 (x6_1 + x8_2)) = j_ := ⟨_,rfl⟩;(replace H : (if 0 ≤ (ji10) then (if (ji10) < (x5_2.length : Int) then (if 0 ≤ x6_1 then (if x6_1 < (l0.length : Int) then (if 0 ≤ x8_2 then (r1_Product.l1 k2 l0 l1 (x5_2.set ((ji10) : Int).toNat (Go.bits .and .u64 (IntKind.u64.wrap ((IntKind.u64.wrap ((rd x5_2 (ji10)) + (IntKind.u64.wrap ((rd l0 x6_1) * (rd l1 x8_2))))) + x7_2)) 65535)) x6_1 ((IntKind.u64.wrap ((IntKind.u64.wrap ((rd x5_2 (ji10)) + (IntKind.u64.wrap ((rd l0 x6_1) * (rd l1 x8_2))))) + x7_2)) / 65536) (wrap64 (x8_2 + 1))) else (none)) else (none)) else (none)) else (none)) else (none)) = some r := by first | (rw [hji10] at H;exact H) | (simp only [hji10] at H ⊢;exact H));have hji10w : (IntKind.i64.wrap (x6_1 + x8_2)) = ji10 := (i64_w _).trans hji10;by_cases c11 : 0 ≤ (ji10)
         ·rw [if_pos c11] at H;have c11b0 : decide (0 ≤ (ji10)) = true := decide_eq_true c11;clear c11;by_cases c12 : (ji10) < (x5_2.length : Int)
          ·rw [if_pos c12] at H;have c12b0 : decide ((ji10) < (x5_2.length : Int)) = true := decide_eq_true c12;clear c12;by_cases c13 : 0 ≤ x6_1
           ·rw [if_pos c13] at H;have c13b0 : decide (0 ≤ x6_1) = true := decide_eq_true c13;clear c13;by_cases c14 : x6_1 < (l0.length : Int)
            ·rw [if_pos c14] at H;have c14b0 : decide (x6_1 < (l0.length : Int)) = true := decide_eq_true c14;clear c14;by_cases c15 : 0 ≤ x8_2
             ·rw [if_pos c15] at H;have c15b0 : decide (0 ≤ x8_2) = true := decide_eq_true c15;clear c15;obtain ⟨y266,hy266⟩ : ∃ y_ : List Int,y_ = (x5_2.set ((ji10) : Int).toNat (Go.bits .and .u64 (IntKind.u64.wrap ((IntKind.u64.wrap ((rd x5_2 (ji10)) + (IntKind.u64.wrap ((rd l0 x6_1) * (rd l1 x8_2))))) + x7_2)) 65535)) := ⟨_,rfl⟩;(replace H : (r1_Product.l1 k2 l0 l1 y266 x6_1 ((IntKind.u64.wrap ((IntKind.u64.wrap ((rd x5_2 (ji10)) + (IntKind.u64.wrap ((rd l0 x6_1) * (rd l1 x8_2))))) + x7_2)) / 65536) (wrap64 (x8_2 + 1))) = some r := by first | (rw [hy266];with_reducible exact H) | (have H2_ := (Option.bind_some _ _).symm.trans H;rw [hy266];with_reducible exact H2_) | (have H2_ := (Option.bind_some _ _).symm.trans H;with_reducible exact H2_) | with_reducible exact H | (rw [hy266];exact H) | exact H);have Ny266 := am hy266;clear hy266;have H' := am H;clear H;obtain ⟨Ao17,co17,eo17⟩ := Kd.zQv HO_5.out;subst eo17;have p263 : 0 ≤ ((ji10) : Int) := pD;have q263 : (ji10) < (x5_2.length : Int) := pD;obtain ⟨ad263,e263,hx263_0⟩ := Kd.zXg (Kd.zQe HO_5.out).2.2 (ji10) p263 q263
              cases e263
              replace p263 := eq_true p263;replace q263 := eq_true q263;have p264 : 0 ≤ (x6_1 : Int) := pD;have q264 : x6_1 < (l0.length : Int) := pD;obtain ⟨ad264,e264,hx264_0⟩ := Kd.zXg HR0.out x6_1 p264 q264
              cases e264
              replace hx264_0 := (HB.out.cell (World.block_lt_of_cell? w _ hx264_0)).trans hx264_0;replace p264 := eq_true p264;replace q264 := eq_true q264;have p265 : 0 ≤ (x8_2 : Int) := pD;have q265 : x8_2 < (l1.length : Int) := pD;obtain ⟨ad265,e265,hx265_0⟩ := Kd.zXg HR1.out x8_2 p265 q265
              cases e265
              replace hx265_0 := (HB.out.cell (World.block_lt_of_cell? w _ hx265_0)).trans hx265_0;replace p265 := eq_true p265;replace q265 := eq_true q265;have p16 : 0 ≤ ((ji10) : Int) := pD;have q16 : ((ji10) : Int) < ((x5_2.length : Int) : Int) := pD;obtain ⟨go16,co16,eo16,gb16,gl16,cl16,HG16⟩ := Kd.zJr HO_5.out (by omega);(first | cases eo16 | (injection eo16 with ea_ en_ ec_;(first | subst ea_ | (injection ea_ with ea_;subst ea_));subst ec_;clear en_));have GB16 := am gb16;have GG16 := am HG16;clear gb16 gl16 HG16;(first | simp only [add_plain] at hx263_0 | skip);obtain ⟨hx16_0,hf16_0⟩ := Kd.zXY 0 HO_5.out ((ji10) : Int) p16 q16;replace p16 := eq_true p16;replace q16 := eq_true q16;have HP18 := Kd.zYM HO_5.out ((ji10) : Int) (Go.bits .and .u64 (IntKind.u64.wrap ((IntKind.u64.wrap ((rd x5_2 (ji10)) + (IntKind.u64.wrap ((rd l0 x6_1) * (rd l1 x8_2))))) + x7_2)) 65535);(go_wp2_with (first | ((with_reducible refine zXx (t := 22) (p := 54) rfl ?_);(try (rw [zXj wr];generalize hq_ : World.drewN wr _ = wr;replace HO_5 := am (Kd.R_at hq_ HO_5.out);replace HB := am (zZb hq_ HB.out);clear hq_;(try have hcf_ := Kd.zXY 0 HO_5.out ((ji10) : Int) (of_eq_true p16) (of_eq_true q16));(try (have HP18 := Kd.zYM HO_5.out ((ji10) : Int) (Go.bits .and .u64 (IntKind.u64.wrap ((IntKind.u64.wrap ((rd x5_2 (ji10)) + (IntKind.u64.wrap ((rd l0 x6_1) * (rd l1 x8_2))))) + x7_2)) 65535)))));refine zXq (t := 22) (p := 54) (v := ?vo_w19) (w1 := (wr.setCell ⟨go16,((ji10) : Int).toNat,none⟩ (.int .u64 (Go.bits .and .u64 (IntKind.u64.wrap ((IntKind.u64.wrap ((rd x5_2 (ji10)) + (IntKind.u64.wrap ((rd l0 x6_1) * (rd l1 x8_2))))) + x7_2)) 65535)))) ?hg ?ho ?hn ?hr ?_;(case ho => rfl);(case hg => rfl);(case hn => rfl);(case hr => first | (go_simp;done) | (go_simp;rfl));intro w19 hw;have hg : wr.grownBy w19 (some go16) := (by rw [hw];exact HP18.2);have hp_ : Kd.R (Kd.int .u64) 22 w19 w.heap.size (fun _ => True) (.slice (some ⟨go16,0,none⟩) x5_2.length co17) y266 := (by rw [hw,Ny266.out];exact HP18.1);clear HP18;replace HO_5 := am (hp_);replace HB := am ((by rw [hw];exact zQS (HB.out) GB16.out : Below w.heap.size w w19));clear hg hw hp_)));repeat (go_quiet (first | ((with_reducible refine zXx (t := 22) (p := 54) rfl ?_);(try (rw [zXj wr];generalize hq_ : World.drewN wr _ = wr;replace HO_5 := am (Kd.R_at hq_ HO_5.out);replace HB := am (zZb hq_ HB.out);clear hq_;(try have hcf_ := Kd.zXY 0 HO_5.out ((ji10) : Int) (of_eq_true p16) (of_eq_true q16));(try (have HP18 := Kd.zYM HO_5.out ((ji10) : Int) (Go.bits .and .u64 (IntKind.u64.wrap ((IntKind.u64.wrap ((rd x5_2 (ji10)) + (IntKind.u64.wrap ((rd l0 x6_1) * (rd l1 x8_2))))) + x7_2)) 65535)))));refine zXq (t := 22) (p := 54) (v := ?vo_w19) (w1 := (wr.setCell ⟨go16,((ji10) : Int).toNat,none⟩ (.int .u64 (Go.bits .and .u64 (IntKind.u64.wrap ((IntKind.u64.wrap ((rd x5_2 (ji10)) + (IntKind.u64.wrap ((rd l0 x6_1) * (rd l1 x8_2))))) + x7_2)) 65535)))) ?hg ?ho ?hn ?hr ?_;(case ho => rfl);(case hg => rfl);(case hn => rfl);(case hr => first | (go_simp;done) | (go_simp;rfl));intro w19 hw;have hg : wr.grownBy w19 (some go16) := (by rw [hw];exact HP18.2);have hp_ : Kd.R (Kd.int .u64) 22 w19 w.heap.size (fun _ => True) (.slice (some ⟨go16,0,none⟩) x5_2.length co17) y266 := (by rw [hw,Ny266.out];exact HP18.1);clear HP18;replace HO_5 := am (hp_);replace HB := am ((by rw [hw];exact zQS (HB.out) GB16.out : Below w.heap.size w w19));clear hg hw hp_));try go_wp2_with (first | ((with_reducible refine zXx (t := 22) (p := 54) rfl ?_);(try (rw [zXj wr];generalize hq_ : World.drewN wr _ = wr;replace HO_5 := am (Kd.R_at hq_ HO_5.out);replace HB := am (zZb hq_ HB.out);clear hq_;(try have hcf_ := Kd.zXY 0 HO_5.out ((ji10) : Int) (of_eq_true p16) (of_eq_true q16));(try (have HP18 := Kd.zYM HO_5.out ((ji10) : Int) (Go.bits .and .u64 (IntKind.u64.wrap ((IntKind.u64.wrap ((rd x5_2 (ji10)) + (IntKind.u64.wrap ((rd l0 x6_1) * (rd l1 x8_2))))) + x7_2)) 65535)))));refine zXq (t := 22) (p := 54) (v := ?vo_w19) (w1 := (wr.setCell ⟨go16,((ji10) : Int).toNat,none⟩ (.int .u64 (Go.bits .and .u64 (IntKind.u64.wrap ((IntKind.u64.wrap ((rd x5_2 (ji10)) + (IntKind.u64.wrap ((rd l0 x6_1) * (rd l1 x8_2))))) + x7_2)) 65535)))) ?hg ?ho ?hn ?hr ?_;(case ho => rfl);(case hg => rfl);(case hn => rfl);(case hr => first | (go_simp;done) | (go_simp;rfl));intro w19 hw;have hg : wr.grownBy w19 (some go16) := (by rw [hw];exact HP18.2);have hp_ : Kd.R (Kd.int .u64) 22 w19 w.heap.size (fun _ => True) (.slice (some ⟨go16,0,none⟩) x5_2.length co17) y266 := (by rw [hw,Ny266.out];exact HP18.1);clear HP18;replace HO_5 := am (hp_);replace HB := am ((by rw [hw];exact zQS (HB.out) GB16.out : Below w.heap.size w w19));clear hg hw hp_)))
              go_roundg k2
              case measure => have := HK1.out;have := HK2.out;omega
              case rel => exact ⟨(y266),((IntKind.u64.wrap ((IntKind.u64.wrap ((rd x5_2 (ji10)) + (IntKind.u64.wrap ((rd l0 x6_1) * (rd l1 x8_2))))) + x7_2)) / 65536),(wrap64 (x8_2 + 1)),(by first | rfl | (simp;done) | (simp only [← hji10] <;> (first | rfl | simp)) | (simp [*];done)),pS,H',⟨by have := HK1.out;have := HK2.out;omega⟩,⟨by (with_reducible repeat (first | apply Kd.zQo | apply Kd.zQj | apply Kd.zQs));exact HO_5.out⟩,⟨pB⟩⟩
             ·rw [if_neg c15] at H
              cases H
            ·rw [if_neg c14] at H
             cases H
           ·rw [if_neg c13] at H
            cases H
          ·rw [if_neg c12] at H
           cases H
         ·rw [if_neg c11] at H
          cases H
        ·rw [if_neg c9] at H;have c9b0 : decide (x8_2 < (l1.length : Int)) = false := decide_eq_false c9;clear c9;obtain ⟨ji20,hji20⟩ : ∃ j_ : Int,(wrap64 (x6_1 + (l1.length : Int))) = j_ := ⟨_,rfl⟩;(replace H : (if 0 ≤ (ji20) then (if (ji20) < (x5_2.length : Int) then (r1_Product.l0 k2 l0 l1 (x5_2.set ((ji20) : Int).toNat x7_2) (wrap64 (x6_1 + 1))) else (none)) else (none)) = some r := by first | (rw [hji20] at H;exact H) | (simp only [hji20] at H ⊢;exact H));have hji20w : (IntKind.i64.wrap (x6_1 + (l1.length : Int))) = ji20 := (i64_w _).trans hji20;by_cases c21 : 0 ≤ (ji20)
         ·rw [if_pos c21] at H;have c21b0 : decide (0 ≤ (ji20)) = true := decide_eq_true c21;clear c21;by_cases c22 : (ji20) < (x5_2.length : Int)
          ·rw [if_pos c22] at H;have c22b0 : decide ((ji20) < (x5_2.length : Int)) = true := decide_eq_true c22;clear c22;obtain ⟨y267,hy267⟩ : ∃ y_ : List Int,y_ = (x5_2.set ((ji20) : Int).toNat x7_2) := ⟨_,rfl⟩;(replace H : (r1_Product.l0 k2 l0 l1 y267 (wrap64 (x6_1 + 1))) = some r := by first | (rw [hy267];with_reducible exact H) | (have H2_ := (Option.bind_some _ _).symm.trans H;rw [hy267];with_reducible exact H2_) | (have H2_ := (Option.bind_some _ _).symm.trans H;with_reducible exact H2_) | with_reducible exact H | (rw [hy267];exact H) | exact H);have Ny267 := am hy267;clear hy267;have H' := am H;clear H;have p23 : 0 ≤ ((ji20) : Int) := pD;have q23 : ((ji20) : Int) < ((x5_2.length : Int) : Int) := pD;obtain ⟨go23,co23,eo23,gb23,gl23,cl23,HG23⟩ := Kd.zJr HO_5.out (by omega);(first | cases eo23 | (injection eo23 with ea_ en_ ec_;(first | subst ea_ | (injection ea_ with ea_;subst ea_));subst ec_;clear en_));have GB23 := am gb23;have GG23 := am HG23;clear gb23 gl23 HG23;obtain ⟨hx23_0,hf23_0⟩ := Kd.zXY 0 HO_5.out ((ji20) : Int) p23 q23;replace p23 := eq_true p23;replace q23 := eq_true q23;have HP24 := Kd.zYM HO_5.out ((ji20) : Int) x7_2;(go_wp2_with (first | ((with_reducible refine zXx (t := 22) (p := 61) rfl ?_);(try (rw [zXj wr];generalize hq_ : World.drewN wr _ = wr;replace HO_5 := am (Kd.R_at hq_ HO_5.out);replace HB := am (zZb hq_ HB.out);clear hq_;(try have hcf_ := Kd.zXY 0 HO_5.out ((ji20) : Int) (of_eq_true p23) (of_eq_true q23));(try (have HP24 := Kd.zYM HO_5.out ((ji20) : Int) x7_2))));refine zXq (t := 22) (p := 61) (v := ?vo_w25) (w1 := (wr.setCell ⟨go23,((ji20) : Int).toNat,none⟩ (.int .u64 x7_2))) ?hg ?ho ?hn ?hr ?_;(case ho => rfl);(case hg => rfl);(case hn => rfl);(case hr => first | (go_simp;done) | (go_simp;rfl));intro w25 hw;have hg : wr.grownBy w25 (some go23) := (by rw [hw];exact HP24.2);have hp_ : Kd.R (Kd.int .u64) 22 w25 w.heap.size (fun _ => True) (.slice (some ⟨go23,0,none⟩) x5_2.length co23) y267 := (by rw [hw,Ny267.out];exact HP24.1);clear HP24;replace HO_5 := am (hp_);replace HB := am ((by rw [hw];exact zQS (HB.out) GB23.out : Below w.heap.size w w25));clear hg hw hp_)));repeat (go_quiet (first | ((with_reducible refine zXx (t := 22) (p := 61) rfl ?_);(try (rw [zXj wr];generalize hq_ : World.drewN wr _ = wr;replace HO_5 := am (Kd.R_at hq_ HO_5.out);replace HB := am (zZb hq_ HB.out);clear hq_;(try have hcf_ := Kd.zXY 0 HO_5.out ((ji20) : Int) (of_eq_true p23) (of_eq_true q23));(try (have HP24 := Kd.zYM HO_5.out ((ji20) : Int) x7_2))));refine zXq (t := 22) (p := 61) (v := ?vo_w25) (w1 := (wr.setCell ⟨go23,((ji20) : Int).toNat,none⟩ (.int .u64 x7_2))) ?hg ?ho ?hn ?hr ?_;(case ho => rfl);(case hg => rfl);(case hn => rfl);(case hr => first | (go_simp;done) | (go_simp;rfl));intro w25 hw;have hg : wr.grownBy w25 (some go23) := (by rw [hw];exact HP24.2);have hp_ : Kd.R (Kd.int .u64) 22 w25 w.heap.size (fun _ => True) (.slice (some ⟨go23,0,none⟩) x5_2.length co23) y267 := (by rw [hw,Ny267.out];exact HP24.1);clear HP24;replace HO_5 := am (hp_);replace HB := am ((by rw [hw];exact zQS (HB.out) GB23.out : Below w.heap.size w w25));clear hg hw hp_));try go_wp2_with (first | ((with_reducible refine zXx (t := 22) (p := 61) rfl ?_);(try (rw [zXj wr];generalize hq_ : World.drewN wr _ = wr;replace HO_5 := am (Kd.R_at hq_ HO_5.out);replace HB := am (zZb hq_ HB.out);clear hq_;(try have hcf_ := Kd.zXY 0 HO_5.out ((ji20) : Int) (of_eq_true p23) (of_eq_true q23));(try (have HP24 := Kd.zYM HO_5.out ((ji20) : Int) x7_2))));refine zXq (t := 22) (p := 61) (v := ?vo_w25) (w1 := (wr.setCell ⟨go23,((ji20) : Int).toNat,none⟩ (.int .u64 x7_2))) ?hg ?ho ?hn ?hr ?_;(case ho => rfl);(case hg => rfl);(case hn => rfl);(case hr => first | (go_simp;done) | (go_simp;rfl));intro w25 hw;have hg : wr.grownBy w25 (some go23) := (by rw [hw];exact HP24.2);have hp_ : Kd.R (Kd.int .u64) 22 w25 w.heap.size (fun _ => True) (.slice (some ⟨go23,0,none⟩) x5_2.length co23) y267 := (by rw [hw,Ny267.out];exact HP24.1);clear HP24;replace HO_5 := am (hp_);replace HB := am ((by rw [hw];exact zQS (HB.out) GB23.out : Below w.heap.size w w25));clear hg hw hp_)))
           go_roundg k2
           case measure => have := HK1.out;have := HK2.out;omega
           case rel => exact ⟨(y267),(wrap64 (x6_1 + 1)),pS,H',⟨by have := HK1.out;have := HK2.out;omega⟩,⟨by (with_reducible repeat (first | apply Kd.zQo | apply Kd.zQj | apply Kd.zQs));exact HO_5.out⟩,⟨pB⟩⟩
          ·rw [if_neg c22] at H
           cases H
         ·rw [if_neg c21] at H
          cases H
     ·rw [if_neg c8] at H;have c8b0 : decide (x6_1 < (l0.length : Int)) = false := decide_eq_false c8;clear c8;obtain ⟨t260,A26,H⟩ := oB H;(try dsimp only at H);obtain rfl := Option.some.inj H;obtain ⟨Ao27,co27,eo27⟩ := Kd.zQv HO_5.out;subst eo27;(go_wp2_with (first | (go_at_call 65;(with_reducible refine (r1_Trim.calls k1 _ _ x5_1 t260 _ ?side1 ?side2 A26.out).mono ?_);(case side1 => exact pC (Kd.zQe HO_5.out).2.2);(case side2 => exact (Kd.zQe HO_5.out).2.1);rintro e w28 ⟨v261,rfl,ho0,hb⟩;have HO262 := am (Kd.zQr (Kd.zQt ho0 (Kd.R_lt (pR HO_5.out))) (zQa pB));replace HO_5 := am (Kd.zQl (pR HO_5.out) (Kd.zQn ho0) hb);replace HB := bS hb;(try clear hb);(try clear ho0))));repeat (go_quiet (first | (go_at_call 65;(with_reducible refine (r1_Trim.calls k1 _ _ x5_1 t260 _ ?side1 ?side2 A26.out).mono ?_);(case side1 => exact pC (Kd.zQe HO_5.out).2.2);(case side2 => exact (Kd.zQe HO_5.out).2.1);rintro e w28 ⟨v261,rfl,ho0,hb⟩;have HO262 := am (Kd.zQr (Kd.zQt ho0 (Kd.R_lt (pR HO_5.out))) (zQa pB));replace HO_5 := am (Kd.zQl (pR HO_5.out) (Kd.zQn ho0) hb);replace HB := bS hb;(try clear hb);(try clear ho0)));try go_wp2_with (first | (go_at_call 65;(with_reducible refine (r1_Trim.calls k1 _ _ x5_1 t260 _ ?side1 ?side2 A26.out).mono ?_);(case side1 => exact pC (Kd.zQe HO_5.out).2.2);(case side2 => exact (Kd.zQe HO_5.out).2.1);rintro e w28 ⟨v261,rfl,ho0,hb⟩;have HO262 := am (Kd.zQr (Kd.zQt ho0 (Kd.R_lt (pR HO_5.out))) (zQa pB));replace HO_5 := am (Kd.zQl (pR HO_5.out) (Kd.zQn ho0) hb);replace HB := bS hb;(try clear hb);(try clear ho0))))
      go_ret
      exact ⟨_,by first | rfl | (simp [zQy,zQx] <;> rfl) | (simp only [← hji3];first | rfl | (simp [zQy,zQx] <;> rfl)) | (simp [*,zQy,zQx] <;> rfl),by (with_reducible repeat (first | apply Kd.zQo | apply Kd.zQj | apply Kd.zQs));exact Kd.zQu HO262.out (fun _ hk => trivial),pB⟩
  ·rw [if_neg c5] at H
   cases H
 ·rw [if_neg c4] at H
  cases H
def r1_most.f (l0 : List Int) (l1 : List Int) : Option (Int) := if (l0.length : Int) > (l1.length : Int) then (some (l0.length : Int)) else (some (l1.length : Int))
set_option maxHeartbeats 8000000 in
set_option maxRecDepth 100000 in
theorem r1_most.calls (A0 : Option Addr) (c0 : Nat) (l0 : List Int) (A1 : Option Addr) (c1 : Nat) (l1 : List Int) (r : Int) (w : World) (hr0 : Kd.C (Kd.int .u64) w A0 l0.length l0) (hc0 : l0.length ≤ c0) (hr1 : Kd.C (Kd.int .u64) w A1 l1.length l1) (hc1 : l1.length ≤ c1) (h : r1_most.f l0 l1 = some r) :
  Calls Tryz.prog 80 #[.slice A0 l0.length c0,.slice A1 l1.length c1] w fun e w' => e = .returned (.int .i64 r) ∧ Drawn0 w w' := by
 have HR0 := am hr0;have HC0 := am hc0;clear hr0 hc0;have HR1 := am hr1;have HC1 := am hc1;clear hr1 hc1;have H : (if (l0.length : Int) > (l1.length : Int) then (some (l0.length : Int)) else (some (l1.length : Int))) = some r := h;clear h;by_cases c3 : (l0.length : Int) > (l1.length : Int)
 ·rw [if_pos c3] at H;have c3b0 : decide ((l1.length : Int) < (l0.length : Int)) = true := decide_eq_true c3;have c3b1 : decide (l1.length < l0.length) = true := decide_eq_true (Int.ofNat_lt.mp c3);clear c3;obtain rfl := Option.some.inj H;go_enter Tryz.func80,Tryz.ntmps80;go_wp2
  go_ret
  exact ⟨pS,pQ0⟩
 ·rw [if_neg c3] at H;have c3b0 : decide ((l1.length : Int) < (l0.length : Int)) = false := decide_eq_false c3;have c3b1 : decide (l1.length < l0.length) = false := decide_eq_false (fun h => c3 (Int.ofNat_lt.mpr h));clear c3;obtain rfl := Option.some.inj H;go_enter Tryz.func80,Tryz.ntmps80;go_wp2
  go_ret
  exact ⟨pS,pQ0⟩
def r1_at.f (l0 : List Int) (a1 : Int) : Option (Int) := if a1 < (l0.length : Int) then (if 0 ≤ a1 then (some (rd l0 a1)) else (none)) else (some 0)
set_option maxHeartbeats 8000000 in
set_option maxRecDepth 100000 in
theorem r1_at.calls (A0 : Option Addr) (c0 : Nat) (l0 : List Int) (a1 : Int) (r : Int) (w : World) (hr0 : Kd.C (Kd.int .u64) w A0 l0.length l0) (hc0 : l0.length ≤ c0) (h : r1_at.f l0 a1 = some r) :
  Calls Tryz.prog 81 #[.slice A0 l0.length c0,.int .i64 a1] w fun e w' => e = .returned (.int .u64 r) ∧ Drawn0 w w' := by
 have HR0 := am hr0;have HC0 := am hc0;clear hr0 hc0;have H : (if a1 < (l0.length : Int) then (if 0 ≤ a1 then (some (rd l0 a1)) else (none)) else (some 0)) = some r := h;clear h;by_cases c3 : a1 < (l0.length : Int)
 ·rw [if_pos c3] at H;have c3b0 : decide (a1 < (l0.length : Int)) = true := decide_eq_true c3;clear c3;by_cases c4 : 0 ≤ a1
  ·rw [if_pos c4] at H;have c4b0 : decide (0 ≤ a1) = true := decide_eq_true c4;clear c4;obtain rfl := Option.some.inj H;have p268 : 0 ≤ (a1 : Int) := pD;have q268 : a1 < (l0.length : Int) := pD;obtain ⟨ad268,e268,hx268_0⟩ := Kd.zXg HR0.out a1 p268 q268
   cases e268
   replace p268 := eq_true p268;replace q268 := eq_true q268;go_enter Tryz.func81,Tryz.ntmps81;go_wp2
   go_ret
   exact ⟨pS,pQ0⟩
  ·rw [if_neg c4] at H
   cases H
 ·rw [if_neg c3] at H;have c3b0 : decide (a1 < (l0.length : Int)) = false := decide_eq_false c3;clear c3;obtain rfl := Option.some.inj H;go_enter Tryz.func81,Tryz.ntmps81;go_wp2
  go_ret
  exact ⟨pS,pQ0⟩
def r1_Sum.l0 : Nat → List Int → List Int → List Int → Int → Int → Option (List Int)
 | 0,_,_,_,_,_ => none
 | k + 1,x0,x1,x5,x6,x7 => (r1_most.f x0 x1).bind fun t272 => (if x7 < t272 then ((r1_at.f x0 x7).bind fun t273 => ((r1_at.f x1 x7).bind fun t274 => (if x5.length < 17592186044416 then (r1_Sum.l0 k x0 x1 (x5 ++ [Go.bits .and .u64 (IntKind.u64.wrap ((IntKind.u64.wrap (t273 + t274)) + x6)) 65535]) ((IntKind.u64.wrap ((IntKind.u64.wrap (t273 + t274)) + x6)) / 65536) (wrap64 (x7 + 1))) else (none)))) else (if x5.length < 17592186044416 then ((r1_Trim.f k (x5 ++ [x6])).bind fun t281 => (some t281)) else (none)))
def r1_Sum.f (k : Nat) (l0 : List Int) (l1 : List Int) : Option (List Int) := r1_Sum.l0 k l0 l1 (([] : List Int)) 0 0
set_option maxHeartbeats 8000000 in
set_option maxRecDepth 100000 in
theorem r1_Sum.calls (k : Nat) (A0 : Option Addr) (c0 : Nat) (l0 : List Int) (A1 : Option Addr) (c1 : Nat) (l1 : List Int) (r : List Int) (w : World) (hr0 : Kd.C (Kd.int .u64) w A0 l0.length l0) (hc0 : l0.length ≤ c0) (hr1 : Kd.C (Kd.int .u64) w A1 l1.length l1) (hc1 : l1.length ≤ c1) (h : r1_Sum.f k l0 l1 = some r) :
  Calls Tryz.prog 51 #[.slice A0 l0.length c0,.slice A1 l1.length c1] w fun e w' => ∃ v0_ : Value,e = .returned (v0_) ∧ Kd.R (Kd.int .u64) 22 w' w.heap.size (fun _ => True) v0_ r ∧ Below w.heap.size w w' := by
 have HR0 := am hr0;have HC0 := am hc0;clear hr0 hc0;have HR1 := am hr1;have HC1 := am hc1;clear hr1 hc1;have HB := am (Below.refl w.heap.size w);have H : (r1_Sum.l0 k l0 l1 (([] : List Int)) 0 0) = some r := h;clear h;obtain ⟨y269,hy269⟩ : ∃ y_ : List Int,y_ = (([] : List Int)) := ⟨_,rfl⟩;(replace H : (r1_Sum.l0 k l0 l1 y269 0 0) = some r := by first | (rw [hy269];with_reducible exact H) | (have H2_ := (Option.bind_some _ _).symm.trans H;rw [hy269];with_reducible exact H2_) | (have H2_ := (Option.bind_some _ _).symm.trans H;with_reducible exact H2_) | with_reducible exact H | (rw [hy269];exact H) | exact H);have Ny269 := am hy269;clear hy269;have H' := am H;clear H;go_enter Tryz.func51,Tryz.ntmps51;go_wp2_with (first | ((with_reducible refine zQE (N := 9) rfl ?_);refine Kd.R_lit (Kd.int .u64) _ 22 ?hg (N := 9) ?hd (xs := ([] : List Int)) (inner := []) (ok := fun _ => True) (okp := fun _ => True) ?hr ?hp (fun _ hk => hk) trivial (Below.refl _ _) (Nat.le_refl _) (by simp) ?_;(case hd => rfl);(case hg => rfl);(case hr => first | (go_simp;done) | (go_simp;rfl));(case hp => exact (Reps.none _ _));intro v270 w3 ho4 hb hg_ hnew_;clear hg_ hnew_;(first | rw [← Ny269.out] at ho4 | (simp only [Int.reduceToNat] at ho4;rw [← Ny269.out] at ho4));have HO271 := am (Kd.zQr ho4 (zQa pB));replace HB := bS hb;clear hb ho4))
 go_loopg [5,6,7] k (fun kq v5 v6 v7 w' => ∃ (x5_1 : List Int) (x6_1 : Int) (x7_1 : Int),v6 = .int .u64 x6_1 ∧ v7 = .int .i64 x7_1 ∧ Aside0 (r1_Sum.l0 kq l0 l1 x5_1 x6_1 x7_1 = some r) ∧ Aside0 (kq ≤ k) ∧ Aside0 (Kd.R (Kd.int .u64) 22 w' w.heap.size (fun _ => True) v5 x5_1) ∧ Aside0 (Below w.heap.size w w'))
 case atStart => exact ⟨(y269),(0),(0),pS,pS,H',⟨Nat.le_refl _⟩,⟨by (with_reducible repeat (first | apply Kd.zQo | apply Kd.zQj | apply Kd.zQs));exact HO271.out⟩,⟨pB⟩⟩
 case round =>
  clear H';(try clear c1);(try clear p2);obtain ⟨x5_1,x6_1,x7_1,rfl,rfl,HA,HK1,HO_5,HB⟩ := hrel
  cases gk with
  | zero => exact absurd HA.out (by simp [r1_Sum.l0])
  | succ k1 =>
   have H := HA.out;clear HA;simp only [r1_Sum.l0] at H;obtain ⟨t272,A5,H⟩ := oB H;(try dsimp only at H);by_cases c6 : x7_1 < t272
   ·rw [if_pos c6] at H;have c6b0 : decide (x7_1 < t272) = true := decide_eq_true c6;clear c6;obtain ⟨t273,A7,H⟩ := oB H;(try dsimp only at H);obtain ⟨t274,A8,H⟩ := oB H;(try dsimp only at H);by_cases c9 : x5_1.length < 17592186044416
    ·rw [if_pos c9] at H;have LMc9 := am c9;clear c9;obtain ⟨y275,hy275⟩ : ∃ y_ : List Int,y_ = (x5_1 ++ [Go.bits .and .u64 (IntKind.u64.wrap ((IntKind.u64.wrap (t273 + t274)) + x6_1)) 65535]) := ⟨_,rfl⟩;(replace H : (r1_Sum.l0 k1 l0 l1 y275 ((IntKind.u64.wrap ((IntKind.u64.wrap (t273 + t274)) + x6_1)) / 65536) (wrap64 (x7_1 + 1))) = some r := by first | (rw [hy275];with_reducible exact H) | (have H2_ := (Option.bind_some _ _).symm.trans H;rw [hy275];with_reducible exact H2_) | (have H2_ := (Option.bind_some _ _).symm.trans H;with_reducible exact H2_) | with_reducible exact H | (rw [hy275];exact H) | exact H);have Ny275 := am hy275;clear hy275;have H' := am H;clear H;go_wp2_with (first | ((with_reducible refine zQb (f := 80) rfl ?_);refine zQi (some 13) rfl rfl Tryz.func80 (by kernel_rfl) rfl #[.slice A0 l0.length c0,.slice A1 l1.length c1] rfl pM ?_;(with_reducible refine (r1_most.calls _ _ l0 _ _ l1 t272 _ ?side1 ?side2 ?side3 ?side4 A5.out).mono ?_);(case side1 => exact pC (Kd.zQF HR0.out HB.out));(case side2 => exact HC0.out);(case side3 => exact pC (Kd.zQF HR1.out HB.out));(case side4 => exact HC1.out);rintro e w' ⟨rfl,⟨nd,rfl⟩⟩;refine ⟨_,rfl,?_⟩) | ((with_reducible refine zQb (f := 81) rfl ?_);refine zQi (some 19) rfl rfl Tryz.func81 (by kernel_rfl) rfl #[.slice A0 l0.length c0,.int .i64 x7_1] rfl pM ?_;(with_reducible refine (r1_at.calls _ _ l0 x7_1 t273 _ ?side1 ?side2 A7.out).mono ?_);(case side1 => exact pC ((Kd.zQF HR0.out pB)));(case side2 => exact HC0.out);rintro e w' ⟨rfl,⟨nd,rfl⟩⟩;refine ⟨_,rfl,?_⟩) | ((with_reducible refine zQb (f := 81) rfl ?_);refine zQi (some 22) rfl rfl Tryz.func81 (by kernel_rfl) rfl #[.slice A1 l1.length c1,.int .i64 x7_1] rfl pM ?_;(with_reducible refine (r1_at.calls _ _ l1 x7_1 t274 _ ?side1 ?side2 A8.out).mono ?_);(case side1 => exact pC ((Kd.zQF HR1.out pB)));(case side2 => exact HC1.out);rintro e w' ⟨rfl,⟨nd,rfl⟩⟩;refine ⟨_,rfl,?_⟩) | ((with_reducible refine zQz (b := .append) (xs := #[.tmp 26,.tmp 29]) rfl ?_);at_builtin;refine Kd.zQW (Kd.int .u64) (w0 := w) w.heap.size rfl (.tmp 26) (.tmp 29) 59 22 (.int .u64 0) 8 rfl Tryz.underlying59 zXW rfl (by decide) (by omega) u5 x5_1 (Go.bits .and .u64 (IntKind.u64.wrap ((IntKind.u64.wrap (t273 + t274)) + x6_1)) 65535) [.int .u64 (Go.bits .and .u64 (IntKind.u64.wrap ((IntKind.u64.wrap (t273 + t274)) + x6_1)) 65535)] (fun _ => True) (fun _ => False) rfl rfl ?aP (fun _ hk => hk.elim) ?aF ?aO ?aB ?aS ?aL ?_;(case aP => exact rfl);(case aB => exact pB);(case aF => exact (fun _ _ => trivial));(case aO => exact (pR HO_5.out));(case aS => exact (zQa pB));(case aL => have := LMc9.out;omega);intro v276 w10 ho hb hg hat;rw [← Ny275.out] at ho;replace HB := am (hb);have HO277 := am (ho);clear HO_5;clear ho hb hg hat))
     go_roundg k1
     case measure => have := HK1.out;omega
     case rel => exact ⟨(y275),((IntKind.u64.wrap ((IntKind.u64.wrap (t273 + t274)) + x6_1)) / 65536),(wrap64 (x7_1 + 1)),pS,pS,H',⟨by have := HK1.out;omega⟩,⟨by (with_reducible repeat (first | apply Kd.zQo | apply Kd.zQj | apply Kd.zQs));exact HO277.out⟩,⟨pB⟩⟩
    ·rw [if_neg c9] at H
     cases H
   ·rw [if_neg c6] at H;have c6b0 : decide (x7_1 < t272) = false := decide_eq_false c6;clear c6;by_cases c11 : x5_1.length < 17592186044416
    ·rw [if_pos c11] at H;have LMc11 := am c11;clear c11;obtain ⟨y278,hy278⟩ : ∃ y_ : List Int,y_ = (x5_1 ++ [x6_1]) := ⟨_,rfl⟩;(replace H : ((r1_Trim.f k1 y278).bind fun t281 => (some t281)) = some r := by first | (rw [hy278];with_reducible exact H) | (have H2_ := (Option.bind_some _ _).symm.trans H;rw [hy278];with_reducible exact H2_) | (have H2_ := (Option.bind_some _ _).symm.trans H;with_reducible exact H2_) | with_reducible exact H | (rw [hy278];exact H) | exact H);have Ny278 := am hy278;clear hy278;obtain ⟨t281,A12,H⟩ := oB H;(try dsimp only at H);obtain rfl := Option.some.inj H;go_wp2_with (first | ((with_reducible refine zQb (f := 80) rfl ?_);refine zQi (some 13) rfl rfl Tryz.func80 (by kernel_rfl) rfl #[.slice A0 l0.length c0,.slice A1 l1.length c1] rfl pM ?_;(with_reducible refine (r1_most.calls _ _ l0 _ _ l1 t272 _ ?side1 ?side2 ?side3 ?side4 A5.out).mono ?_);(case side1 => exact pC (Kd.zQF HR0.out HB.out));(case side2 => exact HC0.out);(case side3 => exact pC (Kd.zQF HR1.out HB.out));(case side4 => exact HC1.out);rintro e w' ⟨rfl,⟨nd,rfl⟩⟩;refine ⟨_,rfl,?_⟩) | ((with_reducible refine zQz (b := .append) (xs := #[.tmp 33,.tmp 35]) rfl ?_);at_builtin;refine Kd.zQW (Kd.int .u64) (w0 := w) w.heap.size rfl (.tmp 33) (.tmp 35) 59 22 (.int .u64 0) 8 rfl Tryz.underlying59 zXW rfl (by decide) (by omega) u5 x5_1 x6_1 [.int .u64 x6_1] (fun _ => True) (fun _ => False) rfl rfl ?aP (fun _ hk => hk.elim) ?aF ?aO ?aB ?aS ?aL ?_;(case aP => exact rfl);(case aB => exact pB);(case aF => exact (fun _ _ => trivial));(case aO => exact (pR HO_5.out));(case aS => exact (zQa pB));(case aL => have := LMc11.out;omega);intro v279 w13 ho hb hg hat;rw [← Ny278.out] at ho;replace HB := am (hb);have HO280 := am (ho);clear HO_5;clear ho hb hg hat;obtain ⟨Ao14,co14,eo14⟩ := Kd.zQv HO280.out;subst eo14) | ((with_reducible refine zQb (f := 65) rfl ?_);refine zQi (some 37) rfl rfl Tryz.func65 (by kernel_rfl) rfl #[.slice Ao14 y278.length co14] rfl pM ?_;(with_reducible refine (r1_Trim.calls k1 _ _ y278 t281 _ ?side1 ?side2 A12.out).mono ?_);(case side1 => exact pC (Kd.zQe HO280.out).2.2);(case side2 => exact (Kd.zQe HO280.out).2.1);rintro e w15 ⟨v282,rfl,ho0,hb⟩;refine ⟨_,rfl,?_⟩;have HO283 := am (Kd.zQr (Kd.zQt ho0 (Kd.R_lt (pR HO280.out))) (zQa pB));replace HO280 := am (Kd.zQl (pR HO280.out) (Kd.zQn ho0) hb);replace HB := bS hb;(try clear hb);(try clear ho0)))
     go_ret
     exact ⟨_,pE,by (with_reducible repeat (first | apply Kd.zQo | apply Kd.zQj | apply Kd.zQs));exact Kd.zQu HO283.out (fun _ hk => trivial),pB⟩
    ·rw [if_neg c11] at H
     cases H
end Go.Proofs.YtflcanpajgpghaaGreatDoor.Pr
end
section
namespace Go.Proofs.YtflcanpajgpghaaGreatDoor.Pr
open Go.RowKit Go.Proofs.YtflcanpajgpghaaGreatDoorW.PrintWords Go.Proofs.YtflcanpajgpghaaGreatDoorW.PrintLast Go.Proofs.YtflcanpajgpghaaGreatDoorW.PrintMore
attribute [local go_sem] zXe zXc zXn zXm zQV zQU zXd zXb
def r5_Whole.l0 : Nat → ByteArray → List Int → Int → Option (List Int)
 | 0,_,_,_ => none
 | k + 1,x0,x3,x4 => if x4 < (x0.size : Int) then ((r1_Product.f k x3 (([10] : List Int))).bind fun t290 => (if 0 ≤ x4 then ((r1_Sum.f k t290 (([((bt x0 x4) - 48) % 256] : List Int))).bind fun t296 => (r5_Whole.l0 k x0 t296 (wrap64 (x4 + 1)))) else (none))) else (some x3)
def r5_Whole.f (k : Nat) (a0 : ByteArray) : Option (List Int) := r5_Whole.l0 k a0 (([] : List Int)) 0
def r5_Whole.T5 : Bool × List (List Nat × List Nat) := (true,[([],[]),([],[]),([0,1],[0,1]),([],[]),([],[]),([3,4],[3,4]),([5],[5]),([6],[6]),([7],[7]),([2,8,2],[2,8]),([9,9,0,1,2,3,4,5,6,7,8,9],[0,9])])
def r5_Whole.B5 : List Nat := [0,0,3,0,0,24,56,120,248,511,1023]
theorem r5_Whole.tab5 : rtab .any (opsOf Tryz.f31 5) = r5_Whole.T5 := by kernel_rfl
theorem r5_Whole.bits5 : zYa r5_Whole.T5.2 r5_Whole.B5 = true := by kernel_rfl
set_option maxHeartbeats 8000000 in
set_option maxRecDepth 100000 in
theorem r5_Whole.calls (k : Nat) (a0 : ByteArray) (r : List Int) (w : World) (h : r5_Whole.f k a0 = some r) :
  Calls Tryz.prog 31 #[.string a0] w fun e w' => ∃ v0_ : Value,e = .returned (v0_) ∧ Kd.R (Kd.int .u64) 22 w' w.heap.size (fun _ => True) v0_ r ∧ Below w.heap.size w w' := by
 have HB := am (Below.refl w.heap.size w);have H : (r5_Whole.l0 k a0 (([] : List Int)) 0) = some r := h;clear h;obtain ⟨y284,hy284⟩ : ∃ y_ : List Int,y_ = (([] : List Int)) := ⟨_,rfl⟩;(replace H : (r5_Whole.l0 k a0 y284 0) = some r := by first | (rw [hy284];with_reducible exact H) | (have H2_ := (Option.bind_some _ _).symm.trans H;rw [hy284];with_reducible exact H2_) | (have H2_ := (Option.bind_some _ _).symm.trans H;with_reducible exact H2_) | with_reducible exact H | (rw [hy284];exact H) | exact H);have Ny284 := am hy284;clear hy284;have H' := am H;clear H;go_enter Tryz.func31,Tryz.ntmps31;go_wp2_with (first | ((with_reducible refine zQE (N := 5) rfl ?_);refine Kd.R_lit (Kd.int .u64) _ 22 ?hg (N := 5) ?hd (xs := ([] : List Int)) (inner := []) (ok := fun _ => True) (okp := fun _ => True) ?hr ?hp (fun _ hk => hk) trivial (Below.refl _ _) (Nat.le_refl _) (by simp) ?_;(case hd => rfl);(case hg => rfl);(case hr => first | (go_simp;done) | (go_simp;rfl));(case hp => exact (Reps.none _ _));intro v285 w2 ho3 hb hg_ hnew_;clear hg_ hnew_;(first | rw [← Ny284.out] at ho3 | (simp only [Int.reduceToNat] at ho3;rw [← Ny284.out] at ho3));have HO286 := am (Kd.zQr ho3 (zQa pB));replace HB := bS hb;clear hb ho3))
 go_loopg [3,4] k (fun kq v3 v4 w' => ∃ (x3_1 : List Int) (x4_1 : Int),v4 = .int .i64 x4_1 ∧ Aside0 (r5_Whole.l0 kq a0 x3_1 x4_1 = some r) ∧ Aside0 (kq ≤ k) ∧ Aside0 (Kd.R (Kd.int .u64) 22 w' w.heap.size (fun _ => True) v3 x3_1) ∧ Aside0 (Below w.heap.size w w'))
 case atStart => exact ⟨(y284),(0),pS,H',⟨Nat.le_refl _⟩,⟨by (with_reducible repeat (first | apply Kd.zQo | apply Kd.zQj | apply Kd.zQs));exact HO286.out⟩,⟨pB⟩⟩
 case round =>
  clear H';(try clear p2);(try clear c3);obtain ⟨x3_1,x4_1,rfl,HA,HK1,HO_3,HB⟩ := hrel
  cases gk with
  | zero => exact absurd HA.out (by simp [r5_Whole.l0])
  | succ k1 =>
   have H := HA.out;clear HA;simp only [r5_Whole.l0] at H;by_cases c4 : x4_1 < (a0.size : Int)
   ·rw [if_pos c4] at H;have c4b0 : decide (x4_1 < (a0.size : Int)) = true := decide_eq_true c4;clear c4;obtain ⟨y287,hy287⟩ : ∃ y_ : List Int,y_ = (([10] : List Int)) := ⟨_,rfl⟩;(replace H : ((r1_Product.f k1 x3_1 y287).bind fun t290 => (if 0 ≤ x4_1 then ((r1_Sum.f k1 t290 (([((bt a0 x4_1) - 48) % 256] : List Int))).bind fun t296 => (r5_Whole.l0 k1 a0 t296 (wrap64 (x4_1 + 1)))) else (none))) = some r := by first | (rw [hy287];with_reducible exact H) | (have H2_ := (Option.bind_some _ _).symm.trans H;rw [hy287];with_reducible exact H2_) | (have H2_ := (Option.bind_some _ _).symm.trans H;with_reducible exact H2_) | with_reducible exact H | (rw [hy287];exact H) | exact H);have Ny287 := am hy287;clear hy287;obtain ⟨t290,A5,H⟩ := oB H;(try dsimp only at H);by_cases c6 : 0 ≤ x4_1
    ·rw [if_pos c6] at H;have c6b0 : decide (0 ≤ x4_1) = true := decide_eq_true c6;clear c6;obtain ⟨y293,hy293⟩ : ∃ y_ : List Int,y_ = (([((bt a0 x4_1) - 48) % 256] : List Int)) := ⟨_,rfl⟩;(replace H : ((r1_Sum.f k1 t290 y293).bind fun t296 => (r5_Whole.l0 k1 a0 t296 (wrap64 (x4_1 + 1)))) = some r := by first | (rw [hy293];with_reducible exact H) | (have H2_ := (Option.bind_some _ _).symm.trans H;rw [hy293];with_reducible exact H2_) | (have H2_ := (Option.bind_some _ _).symm.trans H;with_reducible exact H2_) | with_reducible exact H | (rw [hy293];exact H) | exact H);have Ny293 := am hy293;clear hy293;obtain ⟨t296,A8,H⟩ := oB H;(try dsimp only at H);have H' := am H;clear H;obtain ⟨Ao9,co9,eo9⟩ := Kd.zQv HO_3.out;subst eo9;(try go_wp2);replace HO_3 := am (Kd.zQs HO_3.out);replace HB := am (zQO HB.out);have p7 : 0 ≤ (x4_1 : Int) := pD;have q7 : x4_1 < (a0.size : Int) := pD;have hx7 := bt_at a0 x4_1;replace p7 := eq_true p7;replace q7 := eq_true q7;refine zYR (n := 11) (S := fun w' => True) (ds := []) (bm 11 0) (by kernel_rfl) rfl rfl trivial (fun hHeld => ?_);refine zXI r5_Whole.tab5 r5_Whole.bits5 (fun HT_ HW_ => ?_);generalize wr.drew = w10 at HO_3 HB hHeld ⊢
     refine pure_ (i := 0) (N := some 12) (v := ?_) (a' := ?_) (bm 11 1) rfl rfl (zQB HT_.out (by kernel_rfl)) (fun _ _ _ h => h) (Or.inl ⟨by kernel_rfl,?_⟩) ?_ ?_
     rotate_left
     ·intro w';go_simp;with_reducible rfl
     rotate_left
     ·exact pA
     refine pure_ (i := 3) (N := some 15) (v := ?_) (a' := ?_) (bm 11 9) rfl rfl (zQB HT_.out (by kernel_rfl)) (fun _ _ _ h => h) (Or.inl ⟨by kernel_rfl,?_⟩) ?_ ?_
     rotate_left
     ·intro w';go_simp;with_reducible rfl
     rotate_left
     ·exact pA
     refine pure_ (i := 4) (N := some 16) (v := ?_) (a' := ?_) (bm 11 25) rfl rfl (zQB HT_.out (by kernel_rfl)) (fun _ _ _ h => h) (Or.inl ⟨by kernel_rfl,?_⟩) ?_ ?_
     rotate_left
     ·intro w';go_simp;with_reducible rfl
     rotate_left
     ·exact pA
     refine take_ (i := 5) (N := some 17) (v := ?_) (a' := ?_) (bm 11 57) rfl rfl (zXr HT_.out HW_.out (by kernel_rfl)) (fun _ _ _ h => h) (Or.inl ⟨by kernel_rfl,?_⟩) hHeld ?_ ?_
     rotate_left
     ·intro w' _
      go_simp;with_reducible rfl
     rotate_left
     ·exact pA
     refine pure_ (i := 6) (N := some 18) (v := ?_) (a' := ?_) (bm 11 121) rfl rfl (zQB HT_.out (by kernel_rfl)) (fun _ _ _ h => h) (Or.inl ⟨by kernel_rfl,?_⟩) ?_ ?_
     rotate_left
     ·intro w';go_simp;with_reducible rfl
     rotate_left
     ·exact pA
     refine pure_ (i := 7) (N := some 19) (v := ?_) (a' := ?_) (bm 11 249) rfl rfl (zQB HT_.out (by kernel_rfl)) (fun _ _ _ h => h) (Or.inl ⟨by kernel_rfl,?_⟩) ?_ ?_
     rotate_left
     ·intro w';go_simp;with_reducible rfl
     rotate_left
     ·exact pA
     refine join_ (σ := Value × Value × Value) 2 (bm 11 511) (fun s_ => [(13,s_.1),(14,s_.2.1),(20,s_.2.2)]) (fun s_ w' => (Kd.R (Kd.int .u64) 22 w' w.heap.size (fun k_ => some k_ ≠ (s_.2.1 : Value).ownBlock ∧ some k_ ≠ (s_.2.2 : Value).ownBlock ∧ some k_ ≠ (.slice Ao9 x3_1.length co9 : Value).ownBlock) s_.1 y287) ∧ (Kd.R (Kd.int .u64) 22 w' w.heap.size (fun k_ => some k_ ≠ (s_.1 : Value).ownBlock ∧ some k_ ≠ (s_.2.2 : Value).ownBlock ∧ some k_ ≠ (.slice Ao9 x3_1.length co9 : Value).ownBlock) s_.2.1 t290) ∧ (Kd.R (Kd.int .u64) 22 w' w.heap.size (fun k_ => some k_ ≠ (s_.1 : Value).ownBlock ∧ some k_ ≠ (s_.2.1 : Value).ownBlock ∧ some k_ ≠ (.slice Ao9 x3_1.length co9 : Value).ownBlock) s_.2.2 y293) ∧ (Kd.R (Kd.int .u64) 22 w' w.heap.size (fun k_ => some k_ ≠ (s_.1 : Value).ownBlock ∧ some k_ ≠ (s_.2.1 : Value).ownBlock ∧ some k_ ≠ (s_.2.2 : Value).ownBlock) (.slice Ao9 x3_1.length co9) x3_1) ∧ (Below w.heap.size w w')) ?_ ?_
     rotate_left
     ·intro hCont;refine two_ (i := 1) (j := 8) (Ni := some 13) (Nj := some 20) (bm 11 251) (bm 11 505) rfl rfl rfl rfl (zGH HT_.out (by kernel_rfl)) (by decide) (by decide) (fun K hK => ?_) (fun K hK => ?_)
      ·skip
       refine Kd.zYr (Kd.int .u64) _ 22 ?hg (N := 13) ?hd (xs := ([10] : List Int)) (inner := [.int .u64 10]) (ok := fun _ => True) (okp := fun _ => True) ?hr ?hp (fun _ hk => hk) trivial (Below.refl _ _) (Nat.le_refl _) (by simp) ?_;(case hd => rfl);(case hg => rfl);(case hr => first | (go_simp;done) | (go_simp;rfl));(case hp => exact (Reps.one (show Kd.M (Kd.int .u64) _ _ _ 10 [.int .u64 10] from rfl) (Reps.none _ _)));intro v288 w11 ho12 hb hg_ hnew_;clear hg_ hnew_;(first | rw [← Ny287.out] at ho12 | (simp only [Int.reduceToNat] at ho12;rw [← Ny287.out] at ho12));have n0_ := am (Kd.zQl (pR HO_3.out) (Kd.zQn ho12) hb);have n1_ := am (Kd.zQr (Kd.zQt ho12 (Kd.R_lt (pR HO_3.out))) (zQa pB));have n2_ := bS hb;clear HO_3 HB;have HO_3 := n0_;have HO289 := n1_;have HB := n2_;clear n0_ n1_ n2_ hb ho12;obtain ⟨Ao13,co13,eo13⟩ := Kd.zQv HO289.out;(first | subst eo13 | (injection eo13 with f1_ f2_ f3_;have f4_ := f1_.symm;have f5_ := f3_.symm;clear f1_ f2_ f3_;subst f4_;subst f5_));refine hK.out _ _ trivial (fun hHeld => ?_);clear hK K
       refine norm_ (a' := ?_) ?_ ?_
       rotate_left
       ·show Act.put _ (some 13) _ = _
        exact pA
       refine two_ (i := 2) (j := 8) (Ni := some 14) (Nj := some 20) (bm 11 255) (bm 11 507) rfl rfl rfl rfl (zGH HT_.out (by kernel_rfl)) (by decide) (by decide) (fun K hK => ?_) (fun K hK => ?_)
       ·skip
        refine goes_ Tryz.func34 (by kernel_rfl) rfl #[.slice Ao9 x3_1.length co9,.slice Ao13 y287.length co13] (by rfl) rfl rfl pM ?_
        with_reducible refine (r1_Product.calls k1 _ _ x3_1 _ _ y287 t290 _ ?side1 ?side2 ?side3 ?side4 A5.out).mono ?_
        (case side1 => exact pC (Kd.zQe HO_3.out).2.2);(case side2 => exact (Kd.zQe HO_3.out).2.1);(case side3 => exact pC (Kd.zQe HO289.out).2.2);(case side4 => exact (Kd.zQe HO289.out).2.1);rintro e w14 ⟨v291,rfl,ho0,hb⟩;refine ⟨_,rfl,?_⟩;have n0_ := am (Kd.zQl (pR HO_3.out) (Kd.zQn ho0) hb);have n1_ := am (Kd.zQl (pR HO289.out) (Kd.zQn ho0) hb);have n2_ := am (Kd.zQr (Kd.zQt (Kd.zQt ho0 (Kd.R_lt (pR HO_3.out))) (Kd.R_lt (pR HO289.out))) (zQa pB));have n3_ := bS hb;clear HO_3 HO289 HB;have HO_3 := n0_;have HO289 := n1_;have HO292 := n2_;have HB := n3_;clear n0_ n1_ n2_ n3_;(try clear hb);(try clear ho0);refine hK.out _ _ trivial (fun hHeld => ?_);clear hK K
        refine norm_ (a' := ?_) ?_ ?_
        rotate_left
        ·show Act.put _ (some 14) _ = _
         exact pA
        refine one_ (i := 8) (N := some 20) (bm 11 511) rfl rfl (zXa HT_.out (by kernel_rfl)) (by decide) (fun K hK => ?_);(have hu8_ : IntKind.u64.wrap (IntKind.u8.wrap ((bt a0 x4_1) - 48)) = ((bt a0 x4_1) - 48) % 256 := by unfold IntKind.wrap;simp [IntKind.bits,IntKind.signed];omega);refine Kd.zYr (Kd.int .u64) _ 22 ?hg (N := 20) ?hd (xs := ([((bt a0 x4_1) - 48) % 256] : List Int)) (inner := [.int .u64 (((bt a0 x4_1) - 48) % 256)]) (ok := fun _ => True) (okp := fun _ => True) ?hr ?hp (fun _ hk => hk) trivial (Below.refl _ _) (Nat.le_refl _) (by simp) ?_;(case hd => rfl);(case hg => rfl);(case hr => first | (go_simp;done) | (go_simp;rfl));(case hp => exact (Reps.one (show Kd.M (Kd.int .u64) _ _ _ (((bt a0 x4_1) - 48) % 256) [.int .u64 (((bt a0 x4_1) - 48) % 256)] from rfl) (Reps.none _ _)));intro v294 w15 ho16 hb hg_ hnew_;clear hg_ hnew_;(first | rw [← Ny293.out] at ho16 | (simp only [Int.reduceToNat] at ho16;rw [← Ny293.out] at ho16));have n0_ := am (Kd.zQl (pR HO_3.out) (Kd.zQn ho16) hb);have n1_ := am (Kd.zQl (pR HO289.out) (Kd.zQn ho16) hb);have n2_ := am (Kd.zQl (pR HO292.out) (Kd.zQn ho16) hb);have n3_ := am (Kd.zQr (Kd.zQt (Kd.zQt (Kd.zQt ho16 (Kd.R_lt (pR HO_3.out))) (Kd.R_lt (pR HO289.out))) (Kd.R_lt (pR HO292.out))) (zQa pB));have n4_ := bS hb;clear HO_3 HO289 HO292 HB;have HO_3 := n0_;have HO289 := n1_;have HO292 := n2_;have HO295 := n3_;have HB := n4_;clear n0_ n1_ n2_ n3_ n4_ hb ho16;refine hK.out _ _ trivial (fun hHeld => ?_);clear hK K
        refine norm_ (a' := ?_) ?_ ?_
        rotate_left
        ·show Act.put _ (some 20) _ = _
         exact pA
        exact norm_ (by simp only [zKh,Act.put,List.setIfInBounds_toArray,List.set_cons_zero,List.set_cons_succ]) (hCont (.slice Ao13 y287.length co13,v291,v294) _ ⟨(by (with_reducible repeat (first | apply Kd.zQo | apply Kd.zQj | apply Kd.zQs));exact Kd.zQu HO289.out (fun _ hk => ⟨hk.1.2,⟨hk.2,hk.1.1.2⟩⟩)),(by (with_reducible repeat (first | apply Kd.zQo | apply Kd.zQj | apply Kd.zQs));exact Kd.zQu HO292.out (fun _ hk => ⟨hk.1.2,⟨hk.2,hk.1.1.2⟩⟩)),(by (with_reducible repeat (first | apply Kd.zQo | apply Kd.zQj | apply Kd.zQs));exact Kd.zQu HO295.out (fun _ hk => ⟨hk.1.2,⟨hk.2,hk.1.1.2⟩⟩)),(by (with_reducible repeat (first | apply Kd.zQo | apply Kd.zQj | apply Kd.zQs));exact Kd.zQu HO_3.out (fun _ hk => ⟨hk.1.1.2,⟨hk.1.2,hk.2⟩⟩)),pB⟩)
       ·skip
        (have hu8_ : IntKind.u64.wrap (IntKind.u8.wrap ((bt a0 x4_1) - 48)) = ((bt a0 x4_1) - 48) % 256 := by unfold IntKind.wrap;simp [IntKind.bits,IntKind.signed];omega);refine Kd.zYr (Kd.int .u64) _ 22 ?hg (N := 20) ?hd (xs := ([((bt a0 x4_1) - 48) % 256] : List Int)) (inner := [.int .u64 (((bt a0 x4_1) - 48) % 256)]) (ok := fun _ => True) (okp := fun _ => True) ?hr ?hp (fun _ hk => hk) trivial (Below.refl _ _) (Nat.le_refl _) (by simp) ?_;(case hd => rfl);(case hg => rfl);(case hr => first | (go_simp;done) | (go_simp;rfl));(case hp => exact (Reps.one (show Kd.M (Kd.int .u64) _ _ _ (((bt a0 x4_1) - 48) % 256) [.int .u64 (((bt a0 x4_1) - 48) % 256)] from rfl) (Reps.none _ _)));intro v294 w13 ho14 hb hg_ hnew_;clear hg_ hnew_;(first | rw [← Ny293.out] at ho14 | (simp only [Int.reduceToNat] at ho14;rw [← Ny293.out] at ho14));have n0_ := am (Kd.zQl (pR HO_3.out) (Kd.zQn ho14) hb);have n1_ := am (Kd.zQl (pR HO289.out) (Kd.zQn ho14) hb);have n2_ := am (Kd.zQr (Kd.zQt (Kd.zQt ho14 (Kd.R_lt (pR HO_3.out))) (Kd.R_lt (pR HO289.out))) (zQa pB));have n3_ := bS hb;clear HO_3 HO289 HB;have HO_3 := n0_;have HO289 := n1_;have HO295 := n2_;have HB := n3_;clear n0_ n1_ n2_ n3_ hb ho14;obtain ⟨Ao15,co15,eo15⟩ := Kd.zQv HO289.out;(first | subst eo15 | (injection eo15 with f1_ f2_ f3_;have f4_ := f1_.symm;have f5_ := f3_.symm;clear f1_ f2_ f3_;subst f4_;subst f5_));refine hK.out _ _ trivial (fun hHeld => ?_);clear hK K
        refine norm_ (a' := ?_) ?_ ?_
        rotate_left
        ·show Act.put _ (some 20) _ = _
         exact pA
        refine one_ (i := 2) (N := some 14) (bm 11 511) rfl rfl (zXa HT_.out (by kernel_rfl)) (by decide) (fun K hK => ?_)
        refine goes_ Tryz.func34 (by kernel_rfl) rfl #[.slice Ao9 x3_1.length co9,.slice Ao15 y287.length co15] (by rfl) rfl rfl pM ?_
        with_reducible refine (r1_Product.calls k1 _ _ x3_1 _ _ y287 t290 _ ?side1 ?side2 ?side3 ?side4 A5.out).mono ?_
        (case side1 => exact pC (Kd.zQe HO_3.out).2.2);(case side2 => exact (Kd.zQe HO_3.out).2.1);(case side3 => exact pC (Kd.zQe HO289.out).2.2);(case side4 => exact (Kd.zQe HO289.out).2.1);rintro e w16 ⟨v291,rfl,ho0,hb⟩;refine ⟨_,rfl,?_⟩;have n0_ := am (Kd.zQl (pR HO_3.out) (Kd.zQn ho0) hb);have n1_ := am (Kd.zQl (pR HO289.out) (Kd.zQn ho0) hb);have n2_ := am (Kd.zQl (pR HO295.out) (Kd.zQn ho0) hb);have n3_ := am (Kd.zQr (Kd.zQt (Kd.zQt (Kd.zQt ho0 (Kd.R_lt (pR HO_3.out))) (Kd.R_lt (pR HO289.out))) (Kd.R_lt (pR HO295.out))) (zQa pB));have n4_ := bS hb;clear HO_3 HO289 HO295 HB;have HO_3 := n0_;have HO289 := n1_;have HO295 := n2_;have HO292 := n3_;have HB := n4_;clear n0_ n1_ n2_ n3_ n4_;(try clear hb);(try clear ho0);refine hK.out _ _ trivial (fun hHeld => ?_);clear hK K
        refine norm_ (a' := ?_) ?_ ?_
        rotate_left
        ·show Act.put _ (some 14) _ = _
         exact pA
        exact norm_ (by simp only [zKh,Act.put,List.setIfInBounds_toArray,List.set_cons_zero,List.set_cons_succ]) (hCont (.slice Ao15 y287.length co15,v291,v294) _ ⟨(by (with_reducible repeat (first | apply Kd.zQo | apply Kd.zQj | apply Kd.zQs));exact Kd.zQu HO289.out (fun _ hk => ⟨hk.2,⟨hk.1.2,hk.1.1.2⟩⟩)),(by (with_reducible repeat (first | apply Kd.zQo | apply Kd.zQj | apply Kd.zQs));exact Kd.zQu HO292.out (fun _ hk => ⟨hk.1.2,⟨hk.2,hk.1.1.2⟩⟩)),(by (with_reducible repeat (first | apply Kd.zQo | apply Kd.zQj | apply Kd.zQs));exact Kd.zQu HO295.out (fun _ hk => ⟨hk.1.2,⟨hk.2,hk.1.1.2⟩⟩)),(by (with_reducible repeat (first | apply Kd.zQo | apply Kd.zQj | apply Kd.zQs));exact Kd.zQu HO_3.out (fun _ hk => ⟨hk.1.1.2,⟨hk.2,hk.1.2⟩⟩)),pB⟩)
      ·skip
       (have hu8_ : IntKind.u64.wrap (IntKind.u8.wrap ((bt a0 x4_1) - 48)) = ((bt a0 x4_1) - 48) % 256 := by unfold IntKind.wrap;simp [IntKind.bits,IntKind.signed];omega);refine Kd.zYr (Kd.int .u64) _ 22 ?hg (N := 20) ?hd (xs := ([((bt a0 x4_1) - 48) % 256] : List Int)) (inner := [.int .u64 (((bt a0 x4_1) - 48) % 256)]) (ok := fun _ => True) (okp := fun _ => True) ?hr ?hp (fun _ hk => hk) trivial (Below.refl _ _) (Nat.le_refl _) (by simp) ?_;(case hd => rfl);(case hg => rfl);(case hr => first | (go_simp;done) | (go_simp;rfl));(case hp => exact (Reps.one (show Kd.M (Kd.int .u64) _ _ _ (((bt a0 x4_1) - 48) % 256) [.int .u64 (((bt a0 x4_1) - 48) % 256)] from rfl) (Reps.none _ _)));intro v294 w11 ho12 hb hg_ hnew_;clear hg_ hnew_;(first | rw [← Ny293.out] at ho12 | (simp only [Int.reduceToNat] at ho12;rw [← Ny293.out] at ho12));have n0_ := am (Kd.zQl (pR HO_3.out) (Kd.zQn ho12) hb);have n1_ := am (Kd.zQr (Kd.zQt ho12 (Kd.R_lt (pR HO_3.out))) (zQa pB));have n2_ := bS hb;clear HO_3 HB;have HO_3 := n0_;have HO295 := n1_;have HB := n2_;clear n0_ n1_ n2_ hb ho12;refine hK.out _ _ trivial (fun hHeld => ?_);clear hK K
       refine norm_ (a' := ?_) ?_ ?_
       rotate_left
       ·show Act.put _ (some 20) _ = _
        exact pA
       refine one_ (i := 1) (N := some 13) (bm 11 507) rfl rfl (zXa HT_.out (by kernel_rfl)) (by decide) (fun K hK => ?_);refine Kd.zYr (Kd.int .u64) _ 22 ?hg (N := 13) ?hd (xs := ([10] : List Int)) (inner := [.int .u64 10]) (ok := fun _ => True) (okp := fun _ => True) ?hr ?hp (fun _ hk => hk) trivial (Below.refl _ _) (Nat.le_refl _) (by simp) ?_;(case hd => rfl);(case hg => rfl);(case hr => first | (go_simp;done) | (go_simp;rfl));(case hp => exact (Reps.one (show Kd.M (Kd.int .u64) _ _ _ 10 [.int .u64 10] from rfl) (Reps.none _ _)));intro v288 w13 ho14 hb hg_ hnew_;clear hg_ hnew_;(first | rw [← Ny287.out] at ho14 | (simp only [Int.reduceToNat] at ho14;rw [← Ny287.out] at ho14));have n0_ := am (Kd.zQl (pR HO_3.out) (Kd.zQn ho14) hb);have n1_ := am (Kd.zQl (pR HO295.out) (Kd.zQn ho14) hb);have n2_ := am (Kd.zQr (Kd.zQt (Kd.zQt ho14 (Kd.R_lt (pR HO_3.out))) (Kd.R_lt (pR HO295.out))) (zQa pB));have n3_ := bS hb;clear HO_3 HO295 HB;have HO_3 := n0_;have HO295 := n1_;have HO289 := n2_;have HB := n3_;clear n0_ n1_ n2_ n3_ hb ho14;obtain ⟨Ao15,co15,eo15⟩ := Kd.zQv HO289.out;(first | subst eo15 | (injection eo15 with f1_ f2_ f3_;have f4_ := f1_.symm;have f5_ := f3_.symm;clear f1_ f2_ f3_;subst f4_;subst f5_));refine hK.out _ _ trivial (fun hHeld => ?_);clear hK K
       refine norm_ (a' := ?_) ?_ ?_
       rotate_left
       ·show Act.put _ (some 13) _ = _
        exact pA
       refine one_ (i := 2) (N := some 14) (bm 11 511) rfl rfl (zXa HT_.out (by kernel_rfl)) (by decide) (fun K hK => ?_)
       refine goes_ Tryz.func34 (by kernel_rfl) rfl #[.slice Ao9 x3_1.length co9,.slice Ao15 y287.length co15] (by rfl) rfl rfl pM ?_
       with_reducible refine (r1_Product.calls k1 _ _ x3_1 _ _ y287 t290 _ ?side1 ?side2 ?side3 ?side4 A5.out).mono ?_
       (case side1 => exact pC (Kd.zQe HO_3.out).2.2);(case side2 => exact (Kd.zQe HO_3.out).2.1);(case side3 => exact pC (Kd.zQe HO289.out).2.2);(case side4 => exact (Kd.zQe HO289.out).2.1);rintro e w16 ⟨v291,rfl,ho0,hb⟩;refine ⟨_,rfl,?_⟩;have n0_ := am (Kd.zQl (pR HO_3.out) (Kd.zQn ho0) hb);have n1_ := am (Kd.zQl (pR HO295.out) (Kd.zQn ho0) hb);have n2_ := am (Kd.zQl (pR HO289.out) (Kd.zQn ho0) hb);have n3_ := am (Kd.zQr (Kd.zQt (Kd.zQt (Kd.zQt ho0 (Kd.R_lt (pR HO_3.out))) (Kd.R_lt (pR HO295.out))) (Kd.R_lt (pR HO289.out))) (zQa pB));have n4_ := bS hb;clear HO_3 HO295 HO289 HB;have HO_3 := n0_;have HO295 := n1_;have HO289 := n2_;have HO292 := n3_;have HB := n4_;clear n0_ n1_ n2_ n3_ n4_;(try clear hb);(try clear ho0);refine hK.out _ _ trivial (fun hHeld => ?_);clear hK K
       refine norm_ (a' := ?_) ?_ ?_
       rotate_left
       ·show Act.put _ (some 14) _ = _
        exact pA
       exact norm_ (by simp only [zKh,Act.put,List.setIfInBounds_toArray,List.set_cons_zero,List.set_cons_succ]) (hCont (.slice Ao15 y287.length co15,v291,v294) _ ⟨(by (with_reducible repeat (first | apply Kd.zQo | apply Kd.zQj | apply Kd.zQs));exact Kd.zQu HO289.out (fun _ hk => ⟨hk.2,⟨hk.1.2,hk.1.1.2⟩⟩)),(by (with_reducible repeat (first | apply Kd.zQo | apply Kd.zQj | apply Kd.zQs));exact Kd.zQu HO292.out (fun _ hk => ⟨hk.2,⟨hk.1.2,hk.1.1.2⟩⟩)),(by (with_reducible repeat (first | apply Kd.zQo | apply Kd.zQj | apply Kd.zQs));exact Kd.zQu HO295.out (fun _ hk => ⟨hk.1.2,⟨hk.2,hk.1.1.2⟩⟩)),(by (with_reducible repeat (first | apply Kd.zQo | apply Kd.zQj | apply Kd.zQs));exact Kd.zQu HO_3.out (fun _ hk => ⟨hk.1.2,⟨hk.2,hk.1.1.2⟩⟩)),pB⟩)
     rintro ⟨v288,v291,v294⟩ w17 ⟨h0_,h1_,h2_,h3_,h4_⟩;have n0_ : Aside0 (Kd.R (Kd.int .u64) 22 w17 w.heap.size (fun k_ => some k_ ≠ (v291 : Value).ownBlock ∧ some k_ ≠ (v294 : Value).ownBlock ∧ some k_ ≠ (.slice Ao9 x3_1.length co9 : Value).ownBlock) v288 y287) := ⟨h0_⟩;have n1_ : Aside0 (Kd.R (Kd.int .u64) 22 w17 w.heap.size (fun k_ => some k_ ≠ (v288 : Value).ownBlock ∧ some k_ ≠ (v294 : Value).ownBlock ∧ some k_ ≠ (.slice Ao9 x3_1.length co9 : Value).ownBlock) v291 t290) := ⟨h1_⟩;have n2_ : Aside0 (Kd.R (Kd.int .u64) 22 w17 w.heap.size (fun k_ => some k_ ≠ (v288 : Value).ownBlock ∧ some k_ ≠ (v291 : Value).ownBlock ∧ some k_ ≠ (.slice Ao9 x3_1.length co9 : Value).ownBlock) v294 y293) := ⟨h2_⟩;have n3_ : Aside0 (Kd.R (Kd.int .u64) 22 w17 w.heap.size (fun k_ => some k_ ≠ (v288 : Value).ownBlock ∧ some k_ ≠ (v291 : Value).ownBlock ∧ some k_ ≠ (v294 : Value).ownBlock) (.slice Ao9 x3_1.length co9) x3_1) := ⟨h3_⟩;have n4_ : Aside0 (Below w.heap.size w w17) := ⟨h4_⟩;clear HO_3 HB h0_ h1_ h2_ h3_ h4_;have HO289 := n0_;have HO292 := n1_;have HO295 := n2_;have HO_3 := n3_;have HB := n4_;clear n0_ n1_ n2_ n3_ n4_;have hHeld := trivial;obtain ⟨Ao18,co18,eo18⟩ := Kd.zQv HO292.out;(first | subst eo18 | (injection eo18 with f1_ f2_ f3_;have f4_ := f1_.symm;have f5_ := f3_.symm;clear f1_ f2_ f3_;subst f4_;subst f5_));obtain ⟨Ao19,co19,eo19⟩ := Kd.zQv HO295.out;(first | subst eo19 | (injection eo19 with f1_ f2_ f3_;have f4_ := f1_.symm;have f5_ := f3_.symm;clear f1_ f2_ f3_;subst f4_;subst f5_))
     refine norm_ (a' := ?_) ?_ ?_
     rotate_left
     ·exact pA2
     refine one_ (i := 9) (N := some 21) (bm 11 1023) rfl rfl (zXa HT_.out (by kernel_rfl)) (by decide) (fun K hK => ?_)
     refine goes_ Tryz.func51 (by kernel_rfl) rfl #[.slice Ao18 t290.length co18,.slice Ao19 y293.length co19] (by rfl) rfl rfl pM ?_
     with_reducible refine (r1_Sum.calls k1 _ _ t290 _ _ y293 t296 _ ?side1 ?side2 ?side3 ?side4 A8.out).mono ?_
     (case side1 => exact pC (Kd.zQe HO292.out).2.2);(case side2 => exact (Kd.zQe HO292.out).2.1);(case side3 => exact pC (Kd.zQe HO295.out).2.2);(case side4 => exact (Kd.zQe HO295.out).2.1);rintro e w20 ⟨v297,rfl,ho0,hb⟩;refine ⟨_,rfl,?_⟩;have n0_ := am (Kd.zQl (pR HO_3.out) (Kd.zQn ho0) hb);have n1_ := am (Kd.zQl (pR HO289.out) (Kd.zQn ho0) hb);have n2_ := am (Kd.zQl (pR HO292.out) (Kd.zQn ho0) hb);have n3_ := am (Kd.zQl (pR HO295.out) (Kd.zQn ho0) hb);have n4_ := am (Kd.zQr (Kd.zQt (Kd.zQt (Kd.zQt (Kd.zQt ho0 (Kd.R_lt (pR HO_3.out))) (Kd.R_lt (pR HO289.out))) (Kd.R_lt (pR HO292.out))) (Kd.R_lt (pR HO295.out))) (zQa pB));have n5_ := bS hb;clear HO_3 HO289 HO292 HO295 HB;have HO_3 := n0_;have HO289 := n1_;have HO292 := n2_;have HO295 := n3_;have HO298 := n4_;have HB := n5_;clear n0_ n1_ n2_ n3_ n4_ n5_;(try clear hb);(try clear ho0);refine hK.out _ _ trivial (fun hHeld => ?_);clear hK K
     refine norm_ (a' := ?_) ?_ ?_
     rotate_left
     ·show Act.put _ (some 21) _ = _
      exact pA
     refine pure_ (i := 10) (N := some 3) (v := ?_) (a' := ?_) (bm 11 2047) rfl rfl (zQB HT_.out (by kernel_rfl)) (fun _ _ _ h => h) (Or.inl ⟨by kernel_rfl,?_⟩) ?_ ?_
     rotate_left
     ·intro w';go_simp;with_reducible rfl
     rotate_left
     ·exact pA
     refine done_ (zYx HT_.out (by kernel_rfl)) ?_
     try go_wp2
     go_roundg k1
     case measure => have := HK1.out;omega
     case rel => exact ⟨(t296),(wrap64 (x4_1 + 1)),pS,H',⟨by have := HK1.out;omega⟩,⟨by (with_reducible repeat (first | apply Kd.zQo | apply Kd.zQj | apply Kd.zQs));exact Kd.zQu HO298.out (fun _ hk => trivial)⟩,⟨pB⟩⟩
    ·rw [if_neg c6] at H
     cases H
   ·rw [if_neg c4] at H;have c4b0 : decide (x4_1 < (a0.size : Int)) = false := decide_eq_false c4;clear c4;obtain rfl := Option.some.inj H;go_wp2
    go_ret
    exact ⟨_,pE,by (with_reducible repeat (first | apply Kd.zQo | apply Kd.zQj | apply Kd.zQs));exact HO_3.out,pB⟩
def r1_Sign.f (a0 : Bool) : Option (Int) := if a0 = true then (some 9223372036854775808) else (some 0)
set_option maxHeartbeats 8000000 in
set_option maxRecDepth 100000 in
theorem r1_Sign.calls (a0 : Bool) (r : Int) (w : World) (h : r1_Sign.f a0 = some r) :
  Calls Tryz.prog 62 #[.bool a0] w fun e w' => e = .returned (.int .u64 r) ∧ Drawn0 w w' := by
 have H : (if a0 = true then (some 9223372036854775808) else (some 0)) = some r := h;clear h;by_cases c2 : a0 = true
 ·subst c2;rw [if_pos rfl] at H;obtain rfl := Option.some.inj H;go_enter Tryz.func62,Tryz.ntmps62;go_wp2
  go_ret
  exact ⟨pS,pQ0⟩
 ·replace c2 := Bool.eq_false_iff.mpr c2;subst c2;rw [if_neg (show ¬ (false = true) by decide)] at H;obtain rfl := Option.some.inj H;go_enter Tryz.func62,Tryz.ntmps62;go_wp2
  go_ret
  exact ⟨pS,pQ0⟩
def r1_Infinite.f (a0 : Bool) : Option (Int) := (r1_Sign.f a0).bind fun t299 => (some (Go.bits .or .u64 t299 9218868437227405312))
set_option maxHeartbeats 8000000 in
set_option maxRecDepth 100000 in
theorem r1_Infinite.calls (a0 : Bool) (r : Int) (w : World) (h : r1_Infinite.f a0 = some r) :
  Calls Tryz.prog 32 #[.bool a0] w fun e w' => e = .returned (.int .u64 r) ∧ Drawn0 w w' := by
 have H : ((r1_Sign.f a0).bind fun t299 => (some (Go.bits .or .u64 t299 9218868437227405312))) = some r := h;clear h;obtain ⟨t299,A2,H⟩ := oB H;(try dsimp only at H);obtain rfl := Option.some.inj H;go_enter Tryz.func32,Tryz.ntmps32;go_wp2_with (first | ((with_reducible refine zQb (f := 62) rfl ?_);refine zQi (some 4) rfl rfl Tryz.func62 (by kernel_rfl) rfl #[.bool a0] rfl pM ?_;(with_reducible refine (r1_Sign.calls a0 t299 _ A2.out).mono ?_);rintro e w' ⟨rfl,⟨nd,rfl⟩⟩;refine ⟨_,rfl,?_⟩))
 go_ret
 exact ⟨pS,pQ0⟩
def r1_Bit.f (l0 : List Int) (a1 : Int) : Option (Int) := (r1_at.f l0 (wrap64 (Int.tdiv a1 16))).bind fun t300 => (if 0 ≤ (IntKind.u64.wrap (Int.tmod a1 16)) then (some (Go.bits .and .u64 (shr .u64 t300 (IntKind.u64.wrap (Int.tmod a1 16))) 1)) else (none))
set_option maxHeartbeats 8000000 in
set_option maxRecDepth 100000 in
theorem r1_Bit.calls (A0 : Option Addr) (c0 : Nat) (l0 : List Int) (a1 : Int) (r : Int) (w : World) (hr0 : Kd.C (Kd.int .u64) w A0 l0.length l0) (hc0 : l0.length ≤ c0) (h : r1_Bit.f l0 a1 = some r) :
  Calls Tryz.prog 54 #[.slice A0 l0.length c0,.int .i64 a1] w fun e w' => e = .returned (.int .u64 r) ∧ Drawn0 w w' := by
 have HR0 := am hr0;have HC0 := am hc0;clear hr0 hc0;have H : ((r1_at.f l0 (wrap64 (Int.tdiv a1 16))).bind fun t300 => (if 0 ≤ (IntKind.u64.wrap (Int.tmod a1 16)) then (some (Go.bits .and .u64 (shr .u64 t300 (IntKind.u64.wrap (Int.tmod a1 16))) 1)) else (none))) = some r := h;clear h;obtain ⟨t300,A3,H⟩ := oB H;(try dsimp only at H);obtain ⟨ji4,hji4⟩ : ∃ j_ : Int,(IntKind.u64.wrap (Int.tmod a1 16)) = j_ := ⟨_,rfl⟩;(replace H : (if 0 ≤ (ji4) then (some (Go.bits .and .u64 (shr .u64 t300 (ji4)) 1)) else (none)) = some r := by first | (rw [hji4] at H;exact H) | (simp only [hji4] at H ⊢;exact H));(try rw [hji4] at A3);by_cases c5 : 0 ≤ (ji4)
 ·rw [if_pos c5] at H;have c5b0 := eq_true c5;have c5b1 : decide (0 ≤ (ji4)) = true := decide_eq_true c5;clear c5;obtain ⟨ji6,hji6⟩ : ∃ j_ : Int,(shr .u64 t300 (ji4)) = j_ := ⟨_,rfl⟩;(replace H : (some (Go.bits .and .u64 (ji6) 1)) = some r := by first | (rw [hji6] at H;exact H) | (simp only [hji6] at H ⊢;exact H));(try rw [hji6] at A3);have hji6_ : (t300 / 2 ^ min (ji4).toNat 64) = ji6 := hji6;have hji6z : (ji4) ≤ 64 → (t300 / 2 ^ (ji4).toNat) = ji6 := zWJ hji6;obtain rfl := Option.some.inj H;go_enter Tryz.func54,Tryz.ntmps54;go_wp2_with (first | ((with_reducible refine zQb (f := 81) rfl ?_);refine zQi (some 8) rfl rfl Tryz.func81 (by kernel_rfl) rfl #[.slice A0 l0.length c0,.int .i64 (wrap64 (Int.tdiv a1 16))] rfl pM ?_;(with_reducible refine (r1_at.calls _ _ l0 (wrap64 (Int.tdiv a1 16)) t300 _ ?side1 ?side2 A3.out).mono ?_);(case side1 => exact pC HR0.out);(case side2 => exact HC0.out);rintro e w' ⟨rfl,⟨nd,rfl⟩⟩;refine ⟨_,rfl,?_⟩))
  go_ret
  exact ⟨by first | rfl | (simp;done) | (simp only [← hji4,← hji6] <;> (first | rfl | simp)) | (simp [*];done),pQ0⟩
 ·rw [if_neg c5] at H
  cases H
def r1_Len.l0 : Nat → List Int → Int → Option (Int)
 | 0,_,_ => none
 | k + 1,x0,x3 => if x3 > 0 then ((r1_Bit.f x0 (wrap64 (x3 - 1))).bind fun t301 => (if t301 = 0 then (r1_Len.l0 k x0 (wrap64 (x3 - 1))) else (some x3))) else (some x3)
def r1_Len.f (k : Nat) (l0 : List Int) : Option (Int) := r1_Len.l0 k l0 (wrap64 (16 * (l0.length : Int)))
set_option maxHeartbeats 8000000 in
set_option maxRecDepth 100000 in
theorem r1_Len.calls (k : Nat) (A0 : Option Addr) (c0 : Nat) (l0 : List Int) (r : Int) (w : World) (hr0 : Kd.C (Kd.int .u64) w A0 l0.length l0) (hc0 : l0.length ≤ c0) (h : r1_Len.f k l0 = some r) :
  Calls Tryz.prog 36 #[.slice A0 l0.length c0] w fun e w' => e = .returned (.int .i64 r) ∧ Drawn0 w w' := by
 have HR0 := am hr0;have HC0 := am hc0;clear hr0 hc0;have H : (r1_Len.l0 k l0 (wrap64 (16 * (l0.length : Int)))) = some r := h;clear h;have H' := am H;clear H;go_enter Tryz.func36,Tryz.ntmps36;go_wp2
 go_loopg [3] k (fun kq v3 w' => ∃ (x3_1 : Int),v3 = .int .i64 x3_1 ∧ Aside0 (r1_Len.l0 kq l0 x3_1 = some r) ∧ Aside0 (kq ≤ k) ∧ Drawn0 w w')
 case atStart => exact ⟨(wrap64 (16 * (l0.length : Int))),pS,H',⟨Nat.le_refl _⟩,pQ0⟩
 case round =>
  clear H';obtain ⟨x3_1,rfl,HA,HK1,⟨m1,rfl⟩⟩ := hrel
  cases gk with
  | zero => exact absurd HA.out (by simp [r1_Len.l0])
  | succ k1 =>
   have H := HA.out;clear HA;simp only [r1_Len.l0] at H;by_cases c2 : x3_1 > 0
   ·rw [if_pos c2] at H;have c2b0 : decide (0 < x3_1) = true := decide_eq_true c2;clear c2;obtain ⟨t301,A3,H⟩ := oB H;(try dsimp only at H);by_cases c4 : t301 = 0
    ·rw [if_pos c4] at H;have c4b0 : (t301 == 0) = true := beq_iff_eq.mpr c4;have c4b1 : (t301 != 0) = false := bne_eq_false_iff_eq.mpr c4;clear c4;have H' := am H;clear H;go_wp2_with (first | (go_at_call 54;(with_reducible refine (r1_Bit.calls _ _ l0 (wrap64 (x3_1 - 1)) t301 _ ?side1 ?side2 A3.out).mono ?_);(case side1 => exact pC HR0.out);(case side2 => exact HC0.out);rintro e w' ⟨rfl,⟨nd,rfl⟩⟩))
     go_roundg k1
     case measure => have := HK1.out;omega
     case rel => exact ⟨(wrap64 (x3_1 - 1)),pS,H',⟨by have := HK1.out;omega⟩,pQ0⟩
    ·rw [if_neg c4] at H;have c4b0 : (t301 == 0) = false := beq_eq_false_iff_ne.mpr c4;have c4b1 : (t301 != 0) = true := bne_iff_ne.mpr c4;obtain rfl := Option.some.inj H;go_wp2_with (first | (go_at_call 54;(with_reducible refine (r1_Bit.calls _ _ l0 (wrap64 (x3_1 - 1)) t301 _ ?side1 ?side2 A3.out).mono ?_);(case side1 => exact pC HR0.out);(case side2 => exact HC0.out);rintro e w' ⟨rfl,⟨nd,rfl⟩⟩))
     go_ret
     exact ⟨pS,pQ0⟩
   ·rw [if_neg c2] at H;have c2b0 : decide (0 < x3_1) = false := decide_eq_false c2;clear c2;obtain rfl := Option.some.inj H;go_wp2
    go_ret
    exact ⟨pS,pQ0⟩
def r1_Up.f (k : Nat) (l0 : List Int) (a1 : Int) : Option (List Int) := if 0 ≤ (wrap64 (Int.tdiv a1 16)) then (if (wrap64 (Int.tdiv a1 16) : Int).toNat ≤ 35184372088832 then ((some (List.replicate (wrap64 (Int.tdiv a1 16) : Int).toNat 0 : List Int)).bind fun y302 => (if y302.length + l0.length < 17592186044416 then (if 0 ≤ (IntKind.u64.wrap (Int.tmod a1 16)) then ((r1_Product.f k (y302 ++ l0) (([shl .u64 1 (IntKind.u64.wrap (Int.tmod a1 16))] : List Int))).bind fun t311 => ((r1_Trim.f k t311).bind fun t314 => (some t314))) else (none)) else (none))) else (none)) else (none)
set_option maxHeartbeats 8000000 in
set_option maxRecDepth 100000 in
theorem r1_Up.calls (k : Nat) (A0 : Option Addr) (c0 : Nat) (l0 : List Int) (a1 : Int) (r : List Int) (w : World) (hr0 : Kd.C (Kd.int .u64) w A0 l0.length l0) (hc0 : l0.length ≤ c0) (h : r1_Up.f k l0 a1 = some r) :
  Calls Tryz.prog 38 #[.slice A0 l0.length c0,.int .i64 a1] w fun e w' => ∃ v0_ : Value,e = .returned (v0_) ∧ Kd.R (Kd.int .u64) 22 w' w.heap.size (fun _ => True) v0_ r ∧ Below w.heap.size w w' := by
 have HR0 := am hr0;have HC0 := am hc0;clear hr0 hc0;have HB := am (Below.refl w.heap.size w);have H : (if 0 ≤ (wrap64 (Int.tdiv a1 16)) then (if (wrap64 (Int.tdiv a1 16) : Int).toNat ≤ 35184372088832 then ((some (List.replicate (wrap64 (Int.tdiv a1 16) : Int).toNat 0 : List Int)).bind fun y302 => (if y302.length + l0.length < 17592186044416 then (if 0 ≤ (IntKind.u64.wrap (Int.tmod a1 16)) then ((r1_Product.f k (y302 ++ l0) (([shl .u64 1 (IntKind.u64.wrap (Int.tmod a1 16))] : List Int))).bind fun t311 => ((r1_Trim.f k t311).bind fun t314 => (some t314))) else (none)) else (none))) else (none)) else (none)) = some r := h;clear h;obtain ⟨ji3,hji3⟩ : ∃ j_ : Int,(wrap64 (Int.tdiv a1 16)) = j_ := ⟨_,rfl⟩;(replace H : (if 0 ≤ (ji3) then (if (ji3 : Int).toNat ≤ 35184372088832 then ((some (List.replicate (ji3 : Int).toNat 0 : List Int)).bind fun y302 => (if y302.length + l0.length < 17592186044416 then (if 0 ≤ (IntKind.u64.wrap (Int.tmod a1 16)) then ((r1_Product.f k (y302 ++ l0) (([shl .u64 1 (IntKind.u64.wrap (Int.tmod a1 16))] : List Int))).bind fun t311 => ((r1_Trim.f k t311).bind fun t314 => (some t314))) else (none)) else (none))) else (none)) else (none)) = some r := by first | (rw [hji3] at H;exact H) | (simp only [hji3] at H ⊢;exact H));have hji3w : (IntKind.i64.wrap (Int.tdiv a1 16)) = ji3 := (i64_w _).trans hji3;by_cases c4 : 0 ≤ (ji3)
 ·rw [if_pos c4] at H;have c4b0 := eq_true c4;have c4b1 : decide (0 ≤ (ji3)) = true := decide_eq_true c4;clear c4;by_cases c5 : (ji3 : Int).toNat ≤ 35184372088832
  ·rw [if_pos c5] at H;have c5b0 := eq_true c5;have c5b1 : decide ((ji3 : Int).toNat ≤ 35184372088832) = true := decide_eq_true c5;clear c5;obtain ⟨y302,hy302⟩ : ∃ y_ : List Int,y_ = (List.replicate (ji3 : Int).toNat 0) := ⟨_,rfl⟩;(replace H : (if y302.length + l0.length < 17592186044416 then (if 0 ≤ (IntKind.u64.wrap (Int.tmod a1 16)) then ((r1_Product.f k (y302 ++ l0) (([shl .u64 1 (IntKind.u64.wrap (Int.tmod a1 16))] : List Int))).bind fun t311 => ((r1_Trim.f k t311).bind fun t314 => (some t314))) else (none)) else (none)) = some r := by first | (rw [hy302];with_reducible exact H) | (have H2_ := (Option.bind_some _ _).symm.trans H;rw [hy302];with_reducible exact H2_) | (have H2_ := (Option.bind_some _ _).symm.trans H;with_reducible exact H2_) | with_reducible exact H | (rw [hy302];exact H) | exact H);have Ny302 := am hy302;clear hy302;by_cases c6 : y302.length + l0.length < 17592186044416
   ·rw [if_pos c6] at H;have LMc6 := am c6;clear c6;obtain ⟨y305,hy305⟩ : ∃ y_ : List Int,y_ = (y302 ++ l0) := ⟨_,rfl⟩;(replace H : (if 0 ≤ (IntKind.u64.wrap (Int.tmod a1 16)) then ((r1_Product.f k y305 (([shl .u64 1 (IntKind.u64.wrap (Int.tmod a1 16))] : List Int))).bind fun t311 => ((r1_Trim.f k t311).bind fun t314 => (some t314))) else (none)) = some r := by first | (rw [hy305];with_reducible exact H) | (have H2_ := (Option.bind_some _ _).symm.trans H;rw [hy305];with_reducible exact H2_) | (have H2_ := (Option.bind_some _ _).symm.trans H;with_reducible exact H2_) | with_reducible exact H | (rw [hy305];exact H) | exact H);have Ny305 := am hy305;clear hy305;obtain ⟨ji7,hji7⟩ : ∃ j_ : Int,(IntKind.u64.wrap (Int.tmod a1 16)) = j_ := ⟨_,rfl⟩;(replace H : (if 0 ≤ (ji7) then ((r1_Product.f k y305 (([shl .u64 1 (ji7)] : List Int))).bind fun t311 => ((r1_Trim.f k t311).bind fun t314 => (some t314))) else (none)) = some r := by first | (rw [hji7] at H;exact H) | (simp only [hji7] at H ⊢;exact H));by_cases c8 : 0 ≤ (ji7)
    ·rw [if_pos c8] at H;have c8b0 := eq_true c8;have c8b1 : decide (0 ≤ (ji7)) = true := decide_eq_true c8;clear c8;obtain ⟨ji9,hji9⟩ : ∃ j_ : Int,(shl .u64 1 (ji7)) = j_ := ⟨_,rfl⟩;(replace H : ((r1_Product.f k y305 (([ji9] : List Int))).bind fun t311 => ((r1_Trim.f k t311).bind fun t314 => (some t314))) = some r := by first | (rw [hji9] at H;exact H) | (simp only [hji9] at H ⊢;exact H));have hji9_ : (IntKind.u64.wrap (1 * 2 ^ min (ji7).toNat 64)) = ji9 := hji9;have hji9z : (ji7) ≤ 64 → (IntKind.u64.wrap (1 * 2 ^ (ji7).toNat)) = ji9 := zXU hji9;(have hji9u : (IntKind.u64.wrap (2 ^ min (ji7).toNat 64)) = ji9 := by have h_ := hji9_;rw [Int.one_mul] at h_;exact h_);(have hji9v : (ji7) ≤ 64 → (IntKind.u64.wrap (2 ^ (ji7).toNat)) = ji9 := fun hle_ => by have h_ := hji9z hle_;rw [Int.one_mul] at h_;exact h_);obtain ⟨y308,hy308⟩ : ∃ y_ : List Int,y_ = (([ji9] : List Int)) := ⟨_,rfl⟩;(replace H : ((r1_Product.f k y305 y308).bind fun t311 => ((r1_Trim.f k t311).bind fun t314 => (some t314))) = some r := by first | (rw [hy308];with_reducible exact H) | (have H2_ := (Option.bind_some _ _).symm.trans H;rw [hy308];with_reducible exact H2_) | (have H2_ := (Option.bind_some _ _).symm.trans H;with_reducible exact H2_) | with_reducible exact H | (rw [hy308];exact H) | exact H);have Ny308 := am hy308;clear hy308;obtain ⟨t311,A10,H⟩ := oB H;(try dsimp only at H);obtain ⟨t314,A11,H⟩ := oB H;(try dsimp only at H);obtain rfl := Option.some.inj H;go_enter Tryz.func38,Tryz.ntmps38;go_wp2_with (first | ((with_reducible refine zQE (N := 8) rfl ?_);refine Kd.zJq (Kd.int .u64) _ 22 rfl (N := 8) rfl 59 _ _ rfl ji3 rfl rfl Tryz.underlying59 (.int .u64 0) 8 zXW rfl (by decide) (by omega) 0 (ok := fun _ => True) (okp := fun _ => True) rfl (fun _ hk => hk) trivial pD (Nat.le_trans (Nat.mul_le_mul_right _ (pD : ji3.toNat ≤ 35184372088832)) (by omega)) (Below.refl _ _) (Nat.le_refl _) ?_;intro v303 w12 ho13 hb hg_ hnew_;clear hg_ hnew_;(first | rw [← Ny302.out] at ho13 | (simp only [Int.reduceToNat] at ho13;rw [← Ny302.out] at ho13));have HO304 := am (Kd.zQr ho13 (zQa pB));replace HB := bS hb;clear hb ho13) | ((with_reducible refine zQz (b := .append) (xs := #[.tmp 9,.tmp 10]) rfl ?_);at_builtin;refine Kd.zXG (Kd.int .u64) (w0 := w) w.heap.size rfl (.tmp 9) (.tmp 10) 59 22 (.int .u64 0) 8 rfl Tryz.underlying59 zXW rfl (by decide) (by omega) v303 y302 l0 _ _ _ (fun _ => True) (fun _ => False) rfl rfl ?aO ?aR (fun _ _ h => h) (fun _ h => h.elim) ?aF ?aB ?aS ?aL ?_;(case aR => exact pC (Kd.zQF HR0.out HB.out));(case aB => exact pB);(case aF => exact (fun _ _ => trivial));(case aO => exact (pR HO304.out));(case aS => exact (zQa pB));(case aL => have := LMc6.out;omega);intro v306 w14 ho hb hg hat;rw [← Ny305.out] at ho;replace HB := am (hb);have HO307 := am (ho);clear HO304;clear ho hb hg hat) | ((with_reducible refine zQE (N := 16) rfl ?_);refine Kd.R_lit (Kd.int .u64) _ 22 ?hg (N := 16) ?hd (xs := ([ji9] : List Int)) (inner := [.int .u64 ji9]) (ok := fun _ => True) (okp := fun _ => True) ?hr ?hp (fun _ hk => hk) trivial (Below.refl _ _) (Nat.le_refl _) (by simp) ?_;(case hd => rfl);(case hg => rfl);(case hr => first | (go_simp;done) | (go_simp;rfl));(case hp => exact (Reps.one (show Kd.M (Kd.int .u64) _ _ _ ji9 [.int .u64 ji9] from rfl) (Reps.none _ _)));intro v309 w15 ho16 hb hg_ hnew_;clear hg_ hnew_;(first | rw [← Ny308.out] at ho16 | (simp only [Int.reduceToNat] at ho16;rw [← Ny308.out] at ho16));have HO310 := am (Kd.zQr (Kd.zQt ho16 (Kd.R_lt (pR HO307.out))) (zQa pB));replace HO307 := am (Kd.zQl (pR HO307.out) (Kd.zQn ho16) hb);replace HB := bS hb;clear hb ho16;obtain ⟨Ao17,co17,eo17⟩ := Kd.zQv HO307.out;subst eo17;obtain ⟨Ao18,co18,eo18⟩ := Kd.zQv HO310.out;subst eo18) | ((with_reducible refine zQb (f := 34) rfl ?_);refine zQi (some 17) rfl rfl Tryz.func34 (by kernel_rfl) rfl #[.slice Ao17 y305.length co17,.slice Ao18 y308.length co18] rfl pM ?_;(with_reducible refine (r1_Product.calls k _ _ y305 _ _ y308 t311 _ ?side1 ?side2 ?side3 ?side4 A10.out).mono ?_);(case side1 => exact pC (Kd.zQe HO307.out).2.2);(case side2 => exact (Kd.zQe HO307.out).2.1);(case side3 => exact pC (Kd.zQe HO310.out).2.2);(case side4 => exact (Kd.zQe HO310.out).2.1);rintro e w19 ⟨v312,rfl,ho0,hb⟩;refine ⟨_,rfl,?_⟩;have HO313 := am (Kd.zQr (Kd.zQt (Kd.zQt ho0 (Kd.R_lt (pR HO307.out))) (Kd.R_lt (pR HO310.out))) (zQa pB));replace HO307 := am (Kd.zQl (pR HO307.out) (Kd.zQn ho0) hb);replace HO310 := am (Kd.zQl (pR HO310.out) (Kd.zQn ho0) hb);replace HB := bS hb;(try clear hb);(try clear ho0);obtain ⟨Ao20,co20,eo20⟩ := Kd.zQv HO313.out;subst eo20) | ((with_reducible refine zQb (f := 65) rfl ?_);refine zQi (some 18) rfl rfl Tryz.func65 (by kernel_rfl) rfl #[.slice Ao20 t311.length co20] rfl pM ?_;(with_reducible refine (r1_Trim.calls k _ _ t311 t314 _ ?side1 ?side2 A11.out).mono ?_);(case side1 => exact pC (Kd.zQe HO313.out).2.2);(case side2 => exact (Kd.zQe HO313.out).2.1);rintro e w21 ⟨v315,rfl,ho0,hb⟩;refine ⟨_,rfl,?_⟩;have HO316 := am (Kd.zQr (Kd.zQt (Kd.zQt (Kd.zQt ho0 (Kd.R_lt (pR HO307.out))) (Kd.R_lt (pR HO310.out))) (Kd.R_lt (pR HO313.out))) (zQa pB));replace HO307 := am (Kd.zQl (pR HO307.out) (Kd.zQn ho0) hb);replace HO310 := am (Kd.zQl (pR HO310.out) (Kd.zQn ho0) hb);replace HO313 := am (Kd.zQl (pR HO313.out) (Kd.zQn ho0) hb);replace HB := bS hb;(try clear hb);(try clear ho0)))
     go_ret
     exact ⟨_,by first | rfl | (simp [zQy,zQx] <;> rfl) | (simp only [← hji3,← hji7,← hji9];first | rfl | (simp [zQy,zQx] <;> rfl)) | (simp [*,zQy,zQx] <;> rfl),by (with_reducible repeat (first | apply Kd.zQo | apply Kd.zQj | apply Kd.zQs));exact Kd.zQu HO316.out (fun _ hk => trivial),pB⟩
    ·rw [if_neg c8] at H
     cases H
   ·rw [if_neg c6] at H
    cases H
  ·rw [if_neg c5] at H
   cases H
 ·rw [if_neg c4] at H
  cases H
end Go.Proofs.YtflcanpajgpghaaGreatDoor.Pr
end
section
namespace Go.Proofs.YtflcanpajgpghaaGreatDoor.Pr
open Go.RowKit Go.Proofs.YtflcanpajgpghaaGreatDoorW.PrintWords Go.Proofs.YtflcanpajgpghaaGreatDoorW.PrintLast Go.Proofs.YtflcanpajgpghaaGreatDoorW.PrintMore
attribute [local go_sem] zXe zXc zXn zXm zQV zQU zXd zXb
mutual
def r1_Down.j1 : Nat → List Int → Int → Bool → Option (List Int × Bool)
 | 0,_,_,_ => none
 | k + 1,x0,x1,x6 => r1_Down.l1 k x0 x6 (([] : List Int)) x1
def r1_Down.l1 : Nat → List Int → Bool → List Int → Int → Option (List Int × Bool)
 | 0,_,_,_,_ => none
 | k + 1,x0,x6,x8,x9 => if x9 < (wrap64 (16 * (x0.length : Int))) then (r1_Down.l2 k x0 x6 x8 x9 0 0) else ((r1_Trim.f k x8).bind fun t321 => (some (t321,x6)))
def r1_Down.l2 : Nat → List Int → Bool → List Int → Int → Int → Int → Option (List Int × Bool)
 | 0,_,_,_,_,_,_ => none
 | k + 1,x0,x6,x8,x9,x10,x11 => if x11 < 16 then ((r1_Bit.f x0 (wrap64 (x9 + x11))).bind fun t324 => (if 0 ≤ (IntKind.u64.wrap (x11)) then (r1_Down.l2 k x0 x6 x8 x9 (Go.bits .or .u64 x10 (shl .u64 t324 (IntKind.u64.wrap (x11)))) (wrap64 (x11 + 1))) else (none))) else (if x8.length < 17592186044416 then (r1_Down.l1 k x0 x6 (x8 ++ [x10]) (wrap64 (x9 + 16))) else (none))
def r1_Down.l0 : Nat → List Int → Int → Bool → Int → Option (List Int × Bool)
 | 0,_,_,_,_ => none
 | k + 1,x0,x1,x6,x7 => if x7 < x1 then (if x7 < (wrap64 (16 * (x0.length : Int))) then (if x6 = true then (r1_Down.l0 k x0 x1 true (wrap64 (x7 + 1))) else ((r1_Bit.f x0 x7).bind fun t317 => (r1_Down.l0 k x0 x1 (t317 == 1) (wrap64 (x7 + 1))))) else (r1_Down.j1 k x0 x1 x6)) else (r1_Down.j1 k x0 x1 x6)
end
def r1_Down.f (k : Nat) (l0 : List Int) (a1 : Int) : Option (List Int × Bool) := r1_Down.l0 k l0 a1 false 0
set_option maxHeartbeats 8000000 in
set_option maxRecDepth 100000 in
theorem r1_Down.calls (k : Nat) (A0 : Option Addr) (c0 : Nat) (l0 : List Int) (a1 : Int) (r1 : List Int) (r2 : Bool) (w : World) (hr0 : Kd.C (Kd.int .u64) w A0 l0.length l0) (hc0 : l0.length ≤ c0) (h : r1_Down.f k l0 a1 = some (r1,r2)) :
  Calls Tryz.prog 63 #[.slice A0 l0.length c0,.int .i64 a1] w fun e w' => ∃ v0_ : Value,e = .returned (.tuple #[v0_,.bool r2]) ∧ Kd.R (Kd.int .u64) 22 w' w.heap.size (fun _ => True) v0_ r1 ∧ Below w.heap.size w w' := by
 have HR0 := am hr0;have HC0 := am hc0;clear hr0 hc0;have HB := am (Below.refl w.heap.size w);have H : (r1_Down.l0 k l0 a1 false 0) = some (r1,r2) := h;clear h;have HC3 := am H;clear H;go_enter Tryz.func63,Tryz.ntmps63
 go_upto_block 0 with (fail)
 go_cut [6] (fun v6 wc => ∃ (kq : Nat) (x6_2 : Bool),v6 = .bool x6_2 ∧ Aside0 (r1_Down.j1 kq l0 a1 x6_2 = some (r1,r2)) ∧ Aside0 (kq ≤ k) ∧ Aside0 (Below w.heap.size w wc))
 case first =>
  have H := HC3.out;clear HC3;have H' := am H;clear H;go_wp2
  go_loopg [6,7] k (fun kq v6 v7 w' => ∃ (x6_1 : Bool) (x7_1 : Int),v6 = .bool x6_1 ∧ v7 = .int .i64 x7_1 ∧ Aside0 (r1_Down.l0 kq l0 a1 x6_1 x7_1 = some (r1,r2)) ∧ Aside0 (kq ≤ k) ∧ Aside0 (Below w.heap.size w w'))
  case atStart => exact ⟨(false),(0),pS,pS,H',⟨Nat.le_refl _⟩,⟨pB⟩⟩
  case round =>
   clear H';(try clear p2);obtain ⟨x6_1,x7_1,rfl,rfl,HA,HK1,HB⟩ := hrel
   cases gk with
   | zero => exact absurd HA.out (by simp [r1_Down.l0])
   | succ k1 =>
    have H := HA.out;clear HA;simp only [r1_Down.l0] at H;by_cases c4 : x7_1 < a1
    ·rw [if_pos c4] at H;have c4b0 : decide (x7_1 < a1) = true := decide_eq_true c4;clear c4;(first | rw [c4b0] | (simp only [i64_w,i32_w];rw [c4b0]) | rw [c4b1] | (simp only [i64_w,i32_w];rw [c4b1]) | skip);by_cases c5 : x7_1 < (wrap64 (16 * (l0.length : Int)))
     ·rw [if_pos c5] at H;have c5b0 : decide (x7_1 < (wrap64 (16 * (l0.length : Int)))) = true := decide_eq_true c5;clear c5;by_cases c6 : x6_1 = true
      ·subst c6;rw [if_pos rfl] at H;have H' := am H;clear H;go_wp2
       go_roundg k1
       case measure => have := HK1.out;omega
       case rel => exact ⟨(true),(wrap64 (x7_1 + 1)),pS,pS,H',⟨by have := HK1.out;omega⟩,⟨pB⟩⟩
      ·replace c6 := Bool.eq_false_iff.mpr c6;subst c6;rw [if_neg (show ¬ (false = true) by decide)] at H;obtain ⟨t317,A7,H⟩ := oB H;(try dsimp only at H);have H' := am H;clear H;go_wp2_with (first | (go_at_call 54;(with_reducible refine (r1_Bit.calls _ _ l0 x7_1 t317 _ ?side1 ?side2 A7.out).mono ?_);(case side1 => exact pC (Kd.zQF HR0.out HB.out));(case side2 => exact HC0.out);rintro e w' ⟨rfl,⟨nd,rfl⟩⟩))
       go_roundg k1
       case measure => have := HK1.out;omega
       case rel => exact ⟨((t317 == 1)),(wrap64 (x7_1 + 1)),pS,pS,H',⟨by have := HK1.out;omega⟩,⟨pB⟩⟩
     ·rw [if_neg c5] at H;have c5b0 : decide (x7_1 < (wrap64 (16 * (l0.length : Int)))) = false := decide_eq_false c5;clear c5;have H' := am H;clear H;go_wp2;go_meet
      case rel => exact ⟨_,(x6_1),pS,H',⟨by have := HK1.out;first | omega | exact Nat.le_refl _⟩,⟨pB⟩⟩
    ·rw [if_neg c4] at H;have c4b0 : decide (x7_1 < a1) = false := decide_eq_false c4;clear c4;(first | rw [c4b0] | (simp only [i64_w,i32_w];rw [c4b0]) | rw [c4b1] | (simp only [i64_w,i32_w];rw [c4b1]) | skip);have H' := am H;clear H;go_wp2;go_meet
     case rel => exact ⟨_,(x6_1),pS,H',⟨by have := HK1.out;first | omega | exact Nat.le_refl _⟩,⟨pB⟩⟩
 case rest =>
  clear HC3;(try clear p2);(try clear c4);(try clear c4b0);(try clear c4b1);(try clear c5);(try clear c5b0);(try clear c6);(try clear p6);(try clear p2);obtain ⟨kq,x6_2,rfl,HA,HJ2,HB⟩ := hcut
  cases kq with
  | zero => exact absurd HA.out (by simp [r1_Down.j1])
  | succ kj2 =>
   have H := HA.out;clear HA;simp only [r1_Down.j1] at H;obtain ⟨y318,hy318⟩ : ∃ y_ : List Int,y_ = (([] : List Int)) := ⟨_,rfl⟩;(replace H : (r1_Down.l1 kj2 l0 x6_2 y318 a1) = some (r1,r2) := by first | (rw [hy318];with_reducible exact H) | (have H2_ := (Option.bind_some _ _).symm.trans H;rw [hy318];with_reducible exact H2_) | (have H2_ := (Option.bind_some _ _).symm.trans H;with_reducible exact H2_) | with_reducible exact H | (rw [hy318];exact H) | exact H);have Ny318 := am hy318;clear hy318;have H' := am H;clear H;go_wp2_with (first | ((with_reducible refine zQE (N := 31) rfl ?_);(try (refine zYX (by rfl) ?_;dsimp only));refine Kd.R_lit (Kd.int .u64) _ 22 ?hg (N := 31) ?hd (xs := ([] : List Int)) (inner := []) (ok := fun _ => True) (okp := fun _ => True) ?hr ?hp (fun _ hk => hk) trivial (Below.refl _ _) (Nat.le_refl _) (by simp) ?_;(case hd => rfl);(case hg => rfl);(case hr => first | (go_simp;done) | (go_simp;rfl));(case hp => exact (Reps.none _ _));intro v319 w8 ho9 hb hg_ hnew_;clear hg_ hnew_;(first | rw [← Ny318.out] at ho9 | (simp only [Int.reduceToNat] at ho9;rw [← Ny318.out] at ho9));have HO320 := am (Kd.zQr ho9 (zQa pB));replace HB := bS hb;clear hb ho9))
   go_loopg [8,9] kj2 (fun kq v8 v9 w' => ∃ (x8_2 : List Int) (x9_2 : Int),v9 = .int .i64 x9_2 ∧ Aside0 (r1_Down.l1 kq l0 x6_2 x8_2 x9_2 = some (r1,r2)) ∧ Aside0 (kq ≤ kj2) ∧ Aside0 (Kd.R (Kd.int .u64) 22 w' w.heap.size (fun _ => True) v8 x8_2) ∧ Aside0 (Below w.heap.size w w'))
   case atStart => exact ⟨(y318),(a1),pS,H',⟨Nat.le_refl _⟩,⟨by (with_reducible repeat (first | apply Kd.zQo | apply Kd.zQj | apply Kd.zQs));exact HO320.out⟩,⟨pB⟩⟩
   case round =>
    clear H';(try clear p2);(try clear c4);(try clear c4b0);(try clear c4b1);(try clear c5);(try clear c5b0);(try clear c6);(try clear p6);(try clear p2);(try clear p6);obtain ⟨x8_2,x9_2,rfl,HA,HK2,HO_8,HB⟩ := hrel
    cases gk with
    | zero => exact absurd HA.out (by simp [r1_Down.l1])
    | succ k2 =>
     have H := HA.out;clear HA;simp only [r1_Down.l1] at H;by_cases c10 : x9_2 < (wrap64 (16 * (l0.length : Int)))
     ·rw [if_pos c10] at H;have c10b0 : decide (x9_2 < (wrap64 (16 * (l0.length : Int)))) = true := decide_eq_true c10;clear c10;have H' := am H;clear H;go_wp2
      go_loopg [10,11] k2 (fun kq v10 v11 w' => ∃ (x10_3 : Int) (x11_3 : Int),v10 = .int .u64 x10_3 ∧ v11 = .int .i64 x11_3 ∧ Aside0 (r1_Down.l2 kq l0 x6_2 x8_2 x9_2 x10_3 x11_3 = some (r1,r2)) ∧ Aside0 (kq ≤ k2) ∧ Aside0 (Kd.R (Kd.int .u64) 22 w' w.heap.size (fun _ => True) u8 x8_2) ∧ Aside0 (Below w.heap.size w w'))
      case atStart => exact ⟨(0),(0),pS,pS,H',⟨Nat.le_refl _⟩,⟨by (with_reducible repeat (first | apply Kd.zQo | apply Kd.zQj | apply Kd.zQs));exact HO_8.out⟩,⟨pB⟩⟩
      case round =>
       clear H';(try clear c1);(try clear p2);(try clear c4);(try clear c4b0);(try clear c4b1);(try clear c5);(try clear c5b0);(try clear c6);(try clear p6);(try clear c10);(try clear c10b0);(try clear p2);(try clear p6);obtain ⟨x10_3,x11_3,rfl,rfl,HA,HK3,HO_8,HB⟩ := hrel
       cases gk with
       | zero => exact absurd HA.out (by simp [r1_Down.l2])
       | succ k3 =>
        have H := HA.out;clear HA;simp only [r1_Down.l2] at H;by_cases c11 : x11_3 < 16
        ·rw [if_pos c11] at H;have c11b0 : decide (x11_3 < 16) = true := decide_eq_true c11;clear c11;obtain ⟨t324,A12,H⟩ := oB H;(try dsimp only at H);obtain ⟨ji13,hji13⟩ : ∃ j_ : Int,(IntKind.u64.wrap (x11_3)) = j_ := ⟨_,rfl⟩;(replace H : (if 0 ≤ (ji13) then (r1_Down.l2 k3 l0 x6_2 x8_2 x9_2 (Go.bits .or .u64 x10_3 (shl .u64 t324 (ji13))) (wrap64 (x11_3 + 1))) else (none)) = some (r1,r2) := by first | (rw [hji13] at H;exact H) | (simp only [hji13] at H ⊢;exact H));(try rw [hji13] at A12);by_cases c14 : 0 ≤ (ji13)
         ·rw [if_pos c14] at H;have c14b0 := eq_true c14;have c14b1 : decide (0 ≤ (ji13)) = true := decide_eq_true c14;clear c14;obtain ⟨ji15,hji15⟩ : ∃ j_ : Int,(shl .u64 t324 (ji13)) = j_ := ⟨_,rfl⟩;(replace H : (r1_Down.l2 k3 l0 x6_2 x8_2 x9_2 (Go.bits .or .u64 x10_3 (ji15)) (wrap64 (x11_3 + 1))) = some (r1,r2) := by first | (rw [hji15] at H;exact H) | (simp only [hji15] at H ⊢;exact H));(try rw [hji15] at A12);have hji15_ : (IntKind.u64.wrap (t324 * 2 ^ min (ji13).toNat 64)) = ji15 := hji15;have hji15z : (ji13) ≤ 64 → (IntKind.u64.wrap (t324 * 2 ^ (ji13).toNat)) = ji15 := zXU hji15;have H' := am H;clear H;go_wp2_with (first | ((with_reducible refine zQb (f := 54) rfl ?_);refine zQi (some 49) rfl rfl Tryz.func54 (by kernel_rfl) rfl #[.slice A0 l0.length c0,.int .i64 (wrap64 (x9_2 + x11_3))] rfl pM ?_;(with_reducible refine (r1_Bit.calls _ _ l0 (wrap64 (x9_2 + x11_3)) t324 _ ?side1 ?side2 A12.out).mono ?_);(case side1 => exact pC (Kd.zQF HR0.out HB.out));(case side2 => exact HC0.out);rintro e w' ⟨rfl,⟨nd,rfl⟩⟩;refine ⟨_,rfl,?_⟩))
          go_roundg k3
          case measure => have := HJ2.out;have := HK2.out;have := HK3.out;omega
          case rel => exact ⟨(Go.bits .or .u64 x10_3 (ji15)),(wrap64 (x11_3 + 1)),(by first | rfl | (simp;done) | (simp only [← hji15] <;> (first | rfl | simp)) | (simp [*];done)),pS,H',⟨by have := HJ2.out;have := HK2.out;have := HK3.out;omega⟩,⟨by (with_reducible repeat (first | apply Kd.zQo | apply Kd.zQj | apply Kd.zQs));exact HO_8.out⟩,⟨pB⟩⟩
         ·rw [if_neg c14] at H
          cases H
        ·rw [if_neg c11] at H;have c11b0 : decide (x11_3 < 16) = false := decide_eq_false c11;clear c11;by_cases c16 : x8_2.length < 17592186044416
         ·rw [if_pos c16] at H;have LMc16 := am c16;clear c16;obtain ⟨y325,hy325⟩ : ∃ y_ : List Int,y_ = (x8_2 ++ [x10_3]) := ⟨_,rfl⟩;(replace H : (r1_Down.l1 k3 l0 x6_2 y325 (wrap64 (x9_2 + 16))) = some (r1,r2) := by first | (rw [hy325];with_reducible exact H) | (have H2_ := (Option.bind_some _ _).symm.trans H;rw [hy325];with_reducible exact H2_) | (have H2_ := (Option.bind_some _ _).symm.trans H;with_reducible exact H2_) | with_reducible exact H | (rw [hy325];exact H) | exact H);have Ny325 := am hy325;clear hy325;have H' := am H;clear H;go_wp2_with (first | ((with_reducible refine zQz (b := .append) (xs := #[.tmp 54,.tmp 56]) rfl ?_);(try (refine zYX (by rfl) ?_;dsimp only));at_builtin;refine Kd.zQW (Kd.int .u64) (w0 := w) w.heap.size rfl (.tmp 54) (.tmp 56) 59 22 (.int .u64 0) 8 rfl Tryz.underlying59 zXW rfl (by decide) (by omega) u8 x8_2 x10_3 [.int .u64 x10_3] (fun _ => True) (fun _ => False) rfl rfl ?aP (fun _ hk => hk.elim) ?aF ?aO ?aB ?aS ?aL ?_;(case aP => exact rfl);(case aB => exact pB);(case aF => exact (fun _ _ => trivial));(case aO => exact (pR HO_8.out));(case aS => exact (zQa pB));(case aL => have := LMc16.out;omega);intro v326 w17 ho hb hg hat;rw [← Ny325.out] at ho;replace HB := am (hb);have HO327 := am (ho);clear HO_8;clear ho hb hg hat))
          go_roundg k3
          case measure => have := HJ2.out;have := HK2.out;have := HK3.out;omega
          case rel => exact ⟨(y325),(wrap64 (x9_2 + 16)),pS,H',⟨by have := HJ2.out;have := HK2.out;have := HK3.out;omega⟩,⟨by (with_reducible repeat (first | apply Kd.zQo | apply Kd.zQj | apply Kd.zQs));exact HO327.out⟩,⟨pB⟩⟩
         ·rw [if_neg c16] at H
          cases H
     ·rw [if_neg c10] at H;have c10b0 : decide (x9_2 < (wrap64 (16 * (l0.length : Int)))) = false := decide_eq_false c10;clear c10;obtain ⟨t321,A18,H⟩ := oB H;(try dsimp only at H);simp only [Option.some.injEq,Prod.mk.injEq] at H;obtain ⟨rfl,rfl⟩ := H;obtain ⟨Ao19,co19,eo19⟩ := Kd.zQv HO_8.out;subst eo19;(go_wp2_with (first | ((with_reducible refine zQb (f := 65) rfl ?_);refine zQi (some 59) rfl rfl Tryz.func65 (by kernel_rfl) rfl #[.slice Ao19 x8_2.length co19] rfl pM ?_;(with_reducible refine (r1_Trim.calls k2 _ _ x8_2 t321 _ ?side1 ?side2 A18.out).mono ?_);(case side1 => exact pC (Kd.zQe HO_8.out).2.2);(case side2 => exact (Kd.zQe HO_8.out).2.1);rintro e w20 ⟨v322,rfl,ho0,hb⟩;refine ⟨_,rfl,?_⟩;have HO323 := am (Kd.zQr (Kd.zQt ho0 (Kd.R_lt (pR HO_8.out))) (zQa pB));replace HO_8 := am (Kd.zQl (pR HO_8.out) (Kd.zQn ho0) hb);replace HB := bS hb;(try clear hb);(try clear ho0))));go_ret2;exact ⟨_,pE,by (with_reducible repeat (first | apply Kd.zQo | apply Kd.zQj | apply Kd.zQs));exact Kd.zQu HO323.out (fun _ hk => trivial),pB⟩
def r1_Small.f (l0 : List Int) : Option (Int) := (r1_at.f l0 0).bind fun t328 => ((r1_at.f l0 1).bind fun t329 => ((r1_at.f l0 2).bind fun t330 => ((r1_at.f l0 3).bind fun t331 => (some (Go.bits .or .u64 (Go.bits .or .u64 (Go.bits .or .u64 t328 (IntKind.u64.wrap (t329 * 65536))) (IntKind.u64.wrap (t330 * 4294967296))) (IntKind.u64.wrap (t331 * 281474976710656)))))))
set_option maxHeartbeats 8000000 in
set_option maxRecDepth 100000 in
theorem r1_Small.calls (A0 : Option Addr) (c0 : Nat) (l0 : List Int) (r : Int) (w : World) (hr0 : Kd.C (Kd.int .u64) w A0 l0.length l0) (hc0 : l0.length ≤ c0) (h : r1_Small.f l0 = some r) :
  Calls Tryz.prog 64 #[.slice A0 l0.length c0] w fun e w' => e = .returned (.int .u64 r) ∧ Drawn0 w w' := by
 have HR0 := am hr0;have HC0 := am hc0;clear hr0 hc0;have H : ((r1_at.f l0 0).bind fun t328 => ((r1_at.f l0 1).bind fun t329 => ((r1_at.f l0 2).bind fun t330 => ((r1_at.f l0 3).bind fun t331 => (some (Go.bits .or .u64 (Go.bits .or .u64 (Go.bits .or .u64 t328 (IntKind.u64.wrap (t329 * 65536))) (IntKind.u64.wrap (t330 * 4294967296))) (IntKind.u64.wrap (t331 * 281474976710656)))))))) = some r := h;clear h;obtain ⟨t328,A2,H⟩ := oB H;(try dsimp only at H);obtain ⟨t329,A3,H⟩ := oB H;(try dsimp only at H);obtain ⟨t330,A4,H⟩ := oB H;(try dsimp only at H);obtain ⟨t331,A5,H⟩ := oB H;(try dsimp only at H);obtain rfl := Option.some.inj H;go_enter Tryz.func64,Tryz.ntmps64;go_wp2_with (first | ((with_reducible refine zQb (f := 81) rfl ?_);refine zQi (some 4) rfl rfl Tryz.func81 (by kernel_rfl) rfl #[.slice A0 l0.length c0,.int .i64 0] rfl pM ?_;(with_reducible refine (r1_at.calls _ _ l0 0 t328 _ ?side1 ?side2 A2.out).mono ?_);(case side1 => exact pC HR0.out);(case side2 => exact HC0.out);rintro e w' ⟨rfl,⟨nd,rfl⟩⟩;refine ⟨_,rfl,?_⟩) | ((with_reducible refine zQb (f := 81) rfl ?_);refine zQi (some 6) rfl rfl Tryz.func81 (by kernel_rfl) rfl #[.slice A0 l0.length c0,.int .i64 1] rfl pM ?_;(with_reducible refine (r1_at.calls _ _ l0 1 t329 _ ?side1 ?side2 A3.out).mono ?_);(case side1 => exact pC HR0.out);(case side2 => exact HC0.out);rintro e w' ⟨rfl,⟨nd,rfl⟩⟩;refine ⟨_,rfl,?_⟩) | ((with_reducible refine zQb (f := 81) rfl ?_);refine zQi (some 10) rfl rfl Tryz.func81 (by kernel_rfl) rfl #[.slice A0 l0.length c0,.int .i64 2] rfl pM ?_;(with_reducible refine (r1_at.calls _ _ l0 2 t330 _ ?side1 ?side2 A4.out).mono ?_);(case side1 => exact pC HR0.out);(case side2 => exact HC0.out);rintro e w' ⟨rfl,⟨nd,rfl⟩⟩;refine ⟨_,rfl,?_⟩) | ((with_reducible refine zQb (f := 81) rfl ?_);refine zQi (some 14) rfl rfl Tryz.func81 (by kernel_rfl) rfl #[.slice A0 l0.length c0,.int .i64 3] rfl pM ?_;(with_reducible refine (r1_at.calls _ _ l0 3 t331 _ ?side1 ?side2 A5.out).mono ?_);(case side1 => exact pC HR0.out);(case side2 => exact HC0.out);rintro e w' ⟨rfl,⟨nd,rfl⟩⟩;refine ⟨_,rfl,?_⟩))
 go_ret
 exact ⟨pS,pQ0⟩
end Go.Proofs.YtflcanpajgpghaaGreatDoor.Pr
end
section
namespace Go.Proofs.YtflcanpajgpghaaGreatDoor.Pr
open Go.RowKit Go.Proofs.YtflcanpajgpghaaGreatDoorW.PrintWords Go.Proofs.YtflcanpajgpghaaGreatDoorW.PrintLast Go.Proofs.YtflcanpajgpghaaGreatDoorW.PrintMore
attribute [local go_sem] zXe zXc zXn zXm zQV zQU zXd zXb
mutual
def r1_Round.j0 : Nat → Bool → Int → List Int → Bool → Int → Bool → Option (Int)
 | 0,_,_,_,_,_,_ => none
 | k + 1,x0,x1,x2,x3,x9,x31 => if x31 = true then ((r1_Sign.f x0).bind fun t333 => (some t333)) else (if (wrap64 (x9 + x1)) > 1100 then ((r1_Infinite.f x0).bind fun t334 => (some t334)) else (if (wrap64 ((-1074) - x1)) > (wrap64 (x9 - 53)) then (r1_Round.j1 k x0 x1 x2 x3 (wrap64 ((-1074) - x1))) else (r1_Round.j1 k x0 x1 x2 x3 (wrap64 (x9 - 53)))))
def r1_Round.j1 : Nat → Bool → Int → List Int → Bool → Int → Option (Int)
 | 0,_,_,_,_,_ => none
 | k + 1,x0,x1,x2,x3,x10 => if x10 ≥ 2 then ((r1_Down.f k x2 (wrap64 (x10 - 2))).bind fun bt338 => (if x3 = true then (r1_Round.j2 k x0 (wrap64 (x1 + x10)) bt338.1 true) else (r1_Round.j2 k x0 (wrap64 (x1 + x10)) bt338.1 bt338.2))) else ((r1_Up.f k x2 (wrap64 (2 - x10))).bind fun t342 => (r1_Round.j2 k x0 (wrap64 (x1 + x10)) t342 x3))
def r1_Round.j2 : Nat → Bool → Int → List Int → Bool → Option (Int)
 | 0,_,_,_,_ => none
 | k + 1,x0,x11,x12,x13 => (r1_Small.f x12).bind fun t345 => ((r1_Small.f x12).bind fun t346 => (if (Go.bits .and .u64 t346 3) > 2 then (r1_Round.j3 k x0 x11 (t345 / 4) true) else (if (Go.bits .and .u64 t346 3) = 2 then (if x13 = true then (r1_Round.j3 k x0 x11 (t345 / 4) true) else (r1_Round.j3 k x0 x11 (t345 / 4) ((Int.tmod (t345 / 4) 2) == 1))) else (r1_Round.j3 k x0 x11 (t345 / 4) false))))
def r1_Round.j3 : Nat → Bool → Int → Int → Bool → Option (Int)
 | 0,_,_,_,_ => none
 | k + 1,x0,x11,x16,x90 => if x90 = true then (r1_Round.j4 k x0 x11 (IntKind.u64.wrap (x16 + 1))) else (r1_Round.j4 k x0 x11 x16)
def r1_Round.j4 : Nat → Bool → Int → Int → Option (Int)
 | 0,_,_,_ => none
 | k + 1,x0,x11,x16 => if x16 = 9007199254740992 then (r1_Round.j5 k x0 (wrap64 (x11 + 1)) 4503599627370496) else (r1_Round.j5 k x0 x11 x16)
def r1_Round.j5 : Nat → Bool → Int → Int → Option (Int)
 | 0,_,_,_ => none
 | k + 1,x0,x11,x16 => if x11 > 971 then ((r1_Infinite.f x0).bind fun t347 => (some t347)) else (if x16 < 4503599627370496 then ((r1_Sign.f x0).bind fun t348 => (some (Go.bits .or .u64 t348 x16))) else ((r1_Sign.f x0).bind fun t349 => (some (Go.bits .or .u64 (Go.bits .or .u64 t349 (IntKind.u64.wrap ((IntKind.u64.wrap (wrap64 (x11 + 1075))) * 4503599627370496))) (IntKind.u64.wrap (x16 - 4503599627370496))))))
end
def r1_Round.f (k : Nat) (a0 : Bool) (a1 : Int) (l2 : List Int) (a3 : Bool) : Option (Int) := (r1_Len.f k l2).bind fun t332 => (if t332 = 0 then (if a3 = true then (r1_Round.j0 k a0 a1 l2 a3 t332 (decide ((wrap64 (t332 + a1)) < (-1100)))) else (r1_Round.j0 k a0 a1 l2 a3 t332 true)) else (r1_Round.j0 k a0 a1 l2 a3 t332 (decide ((wrap64 (t332 + a1)) < (-1100)))))
set_option maxHeartbeats 8000000 in
set_option maxRecDepth 100000 in
theorem r1_Round.calls (k : Nat) (a0 : Bool) (a1 : Int) (A2 : Option Addr) (c2 : Nat) (l2 : List Int) (a3 : Bool) (r : Int) (w : World) (hr2 : Kd.C (Kd.int .u64) w A2 l2.length l2) (hc2 : l2.length ≤ c2) (h : r1_Round.f k a0 a1 l2 a3 = some r) :
  Calls Tryz.prog 33 #[.bool a0,.int .i64 a1,.slice A2 l2.length c2,.bool a3] w fun e w' => e = .returned (.int .u64 r) ∧ Below w.heap.size w w' := by
 have HR2 := am hr2;have HC2 := am hc2;clear hr2 hc2;have HB := am (Below.refl w.heap.size w);have H : ((r1_Len.f k l2).bind fun t332 => (if t332 = 0 then (if a3 = true then (r1_Round.j0 k a0 a1 l2 a3 t332 (decide ((wrap64 (t332 + a1)) < (-1100)))) else (r1_Round.j0 k a0 a1 l2 a3 t332 true)) else (r1_Round.j0 k a0 a1 l2 a3 t332 (decide ((wrap64 (t332 + a1)) < (-1100)))))) = some r := h;clear h;obtain ⟨t332,A5,H⟩ := oB H;(try dsimp only at H);have HC6 := am H;clear H;go_enter Tryz.func33,Tryz.ntmps33;(go_upto_region 2 with (first | ((with_reducible refine zQb (f := 36) rfl ?_);refine zQi (some 19) rfl rfl Tryz.func36 (by kernel_rfl) rfl #[.slice A2 l2.length c2] rfl pM ?_;(with_reducible refine (r1_Len.calls k _ _ l2 t332 _ ?side1 ?side2 A5.out).mono ?_);(case side1 => exact pC HR2.out);(case side2 => exact HC2.out);rintro e w' ⟨rfl,⟨nd,rfl⟩⟩;refine ⟨_,rfl,?_⟩)));(try simp only [Act.put,List.setIfInBounds_toArray,List.set_cons_zero,List.set_cons_succ])
 go_cut [31] (fun v31 wc => ∃ (kq : Nat) (x31_5 : Bool),v31 = .bool x31_5 ∧ Aside0 (r1_Round.j0 kq a0 a1 l2 a3 t332 x31_5 = some r) ∧ Aside0 (kq ≤ k) ∧ Aside0 (Below w.heap.size w wc))
 case first =>
  have H := HC6.out;clear HC6;by_cases c7 : t332 = 0
  ·rw [if_pos c7] at H;have c7b0 : (t332 == 0) = true := beq_iff_eq.mpr c7;have c7b1 : (t332 != 0) = false := bne_eq_false_iff_eq.mpr c7;clear c7;(first | rw [c7b0] | (simp only [i64_w,i32_w];rw [c7b0]) | rw [c7b1] | (simp only [i64_w,i32_w];rw [c7b1]) | skip);by_cases c8 : a3 = true
   ·subst c8;rw [if_pos rfl] at H;have H' := am H;clear H;go_wp2;go_meet
    case rel => exact ⟨_,(decide ((wrap64 (t332 + a1)) < (-1100))),pS,H',⟨by first | omega | exact Nat.le_refl _⟩,⟨pB⟩⟩
   ·replace c8 := Bool.eq_false_iff.mpr c8;subst c8;rw [if_neg (show ¬ (false = true) by decide)] at H;have H' := am H;clear H;go_wp2;go_meet
    case rel => exact ⟨_,(true),pS,H',⟨by first | omega | exact Nat.le_refl _⟩,⟨pB⟩⟩
  ·rw [if_neg c7] at H;have c7b0 : (t332 == 0) = false := beq_eq_false_iff_ne.mpr c7;have c7b1 : (t332 != 0) = true := bne_iff_ne.mpr c7;(first | rw [c7b0] | (simp only [i64_w,i32_w];rw [c7b0]) | rw [c7b1] | (simp only [i64_w,i32_w];rw [c7b1]) | skip);have H' := am H;clear H;go_wp2;go_meet
   case rel => exact ⟨_,(decide ((wrap64 (t332 + a1)) < (-1100))),pS,H',⟨by first | omega | exact Nat.le_refl _⟩,⟨pB⟩⟩
 case rest =>
  clear HC6;(try clear c2);(try clear p2);(try clear c3);(try clear p6);(try clear c7);(try clear c7b0);(try clear c7b1);(try clear c8);obtain ⟨kq,x31_5,rfl,HA,HJ5,HB⟩ := hcut
  cases kq with
  | zero => exact absurd HA.out (by simp [r1_Round.j0])
  | succ kj5 =>
   have H := HA.out;clear HA;simp only [r1_Round.j0] at H;by_cases c9 : x31_5 = true
   ·subst c9;rw [if_pos rfl] at H;obtain ⟨t333,A10,H⟩ := oB H;(try dsimp only at H);obtain rfl := Option.some.inj H;go_wp2_with (first | ((with_reducible refine zQb (f := 62) rfl ?_);refine zQi (some 33) rfl rfl Tryz.func62 (by kernel_rfl) rfl #[.bool a0] rfl pM ?_;(with_reducible refine (r1_Sign.calls a0 t333 _ A10.out).mono ?_);rintro e w' ⟨rfl,⟨nd,rfl⟩⟩;refine ⟨_,rfl,?_⟩))
    go_ret
    exact ⟨pE,pB⟩
   ·replace c9 := Bool.eq_false_iff.mpr c9;subst c9;rw [if_neg (show ¬ (false = true) by decide)] at H;by_cases c11 : (wrap64 (t332 + a1)) > 1100
    ·rw [if_pos c11] at H;have c11b0 : decide (1100 < (wrap64 (t332 + a1))) = true := decide_eq_true c11;clear c11;obtain ⟨t334,A12,H⟩ := oB H;(try dsimp only at H);obtain rfl := Option.some.inj H;go_wp2_with (first | ((with_reducible refine zQb (f := 32) rfl ?_);refine zQi (some 39) rfl rfl Tryz.func32 (by kernel_rfl) rfl #[.bool a0] rfl pM ?_;(with_reducible refine (r1_Infinite.calls a0 t334 _ A12.out).mono ?_);rintro e w' ⟨rfl,⟨nd,rfl⟩⟩;refine ⟨_,rfl,?_⟩))
     go_ret
     exact ⟨pE,pB⟩
    ·rw [if_neg c11] at H;have c11b0 : decide (1100 < (wrap64 (t332 + a1))) = false := decide_eq_false c11;clear c11;have HC13 := am H;clear H
     go_upto_if 45 with (fail)
     go_cut [10] (fun v10 wc => ∃ (kq : Nat) (x10_12 : Int),v10 = .int .i64 x10_12 ∧ Aside0 (r1_Round.j1 kq a0 a1 l2 a3 x10_12 = some r) ∧ Aside0 (kq ≤ kj5) ∧ Aside0 (Below w.heap.size w wc))
     case first =>
      have H := HC13.out;clear HC13;by_cases c14 : (wrap64 ((-1074) - a1)) > (wrap64 (t332 - 53))
      ·rw [if_pos c14] at H;have c14b0 : decide ((wrap64 (t332 - 53)) < (wrap64 ((-1074) - a1))) = true := decide_eq_true c14;clear c14;(first | rw [c14b0] | (simp only [i64_w,i32_w];rw [c14b0]) | rw [c14b1] | (simp only [i64_w,i32_w];rw [c14b1]) | skip);have H' := am H;clear H;go_wp2;go_meet
       case rel => exact ⟨_,(wrap64 ((-1074) - a1)),pS,H',⟨by have := HJ5.out;first | omega | exact Nat.le_refl _⟩,⟨pB⟩⟩
      ·rw [if_neg c14] at H;have c14b0 : decide ((wrap64 (t332 - 53)) < (wrap64 ((-1074) - a1))) = false := decide_eq_false c14;clear c14;(first | rw [c14b0] | (simp only [i64_w,i32_w];rw [c14b0]) | rw [c14b1] | (simp only [i64_w,i32_w];rw [c14b1]) | skip);have H' := am H;clear H;go_wp2;go_meet
       case rel => exact ⟨_,(wrap64 (t332 - 53)),pS,H',⟨by have := HJ5.out;first | omega | exact Nat.le_refl _⟩,⟨pB⟩⟩
     case rest =>
      clear HC13;(try clear c1);(try clear c2);(try clear p2);(try clear c3);(try clear c6);(try clear p6);(try clear c7);(try clear c7b0);(try clear c7b1);(try clear c8);(try clear c9);(try clear c11);(try clear c11b0);(try clear c14);(try clear c14b0);(try clear c14b1);(try clear p2);(try clear p6);obtain ⟨kq,x10_12,rfl,HA,HJ12,HB⟩ := hcut
      cases kq with
      | zero => exact absurd HA.out (by simp [r1_Round.j1])
      | succ kj12 =>
       have H := HA.out;clear HA;simp only [r1_Round.j1] at H;obtain ⟨y335,hy335⟩ : ∃ y_ : List Int,y_ = (([] : List Int)) := ⟨_,rfl⟩;(replace H : (if x10_12 ≥ 2 then ((r1_Down.f kj12 l2 (wrap64 (x10_12 - 2))).bind fun bt338 => (if a3 = true then (r1_Round.j2 kj12 a0 (wrap64 (a1 + x10_12)) bt338.1 true) else (r1_Round.j2 kj12 a0 (wrap64 (a1 + x10_12)) bt338.1 bt338.2))) else ((r1_Up.f kj12 l2 (wrap64 (2 - x10_12))).bind fun t342 => (r1_Round.j2 kj12 a0 (wrap64 (a1 + x10_12)) t342 a3))) = some r := by first | (rw [hy335];with_reducible exact H) | (have H2_ := (Option.bind_some _ _).symm.trans H;rw [hy335];with_reducible exact H2_) | (have H2_ := (Option.bind_some _ _).symm.trans H;with_reducible exact H2_) | with_reducible exact H | (rw [hy335];exact H) | exact H);have Ny335 := am hy335;clear hy335;have HC15 := am H;clear H
       go_upto_if 54 with (first | ((with_reducible refine zQE (N := 51) rfl ?_);refine Kd.R_lit (Kd.int .u64) _ 22 ?hg (N := 51) ?hd (xs := ([] : List Int)) (inner := []) (ok := fun _ => True) (okp := fun _ => True) ?hr ?hp (fun _ hk => hk) trivial (Below.refl _ _) (Nat.le_refl _) (by simp) ?_;(case hd => rfl);(case hg => rfl);(case hr => first | (go_simp;done) | (go_simp;rfl));(case hp => exact (Reps.none _ _));intro v336 w16 ho17 hb hg_ hnew_;clear hg_ hnew_;(first | rw [← Ny335.out] at ho17 | (simp only [Int.reduceToNat] at ho17;rw [← Ny335.out] at ho17));have HO337 := am (Kd.zQr ho17 (zQa pB));replace HB := bS hb;clear hb ho17))
       (try simp only [Act.put,List.setIfInBounds_toArray,List.set_cons_zero,List.set_cons_succ])
       go_cut [12,13] (fun v12 v13 wc => ∃ (kq : Nat) (x12_14 : List Int) (x13_14 : Bool),v13 = .bool x13_14 ∧ Aside0 (r1_Round.j2 kq a0 (wrap64 (a1 + x10_12)) x12_14 x13_14 = some r) ∧ Aside0 (kq ≤ kj12) ∧ Aside0 (Kd.R (Kd.int .u64) 22 wc w.heap.size (fun _ => True) v12 x12_14) ∧ Aside0 (Below w.heap.size w wc))
       case first =>
        have H := HC15.out;clear HC15;by_cases c18 : x10_12 ≥ 2
        ·rw [if_pos c18] at H;have c18b0 : decide (2 ≤ x10_12) = true := decide_eq_true c18;clear c18;(first | rw [c18b0] | (simp only [i64_w,i32_w];rw [c18b0]) | rw [c18b1] | (simp only [i64_w,i32_w];rw [c18b1]) | skip);obtain ⟨⟨t338,t339⟩,A19,H⟩ := oB H;(try dsimp only at H);by_cases c20 : a3 = true
         ·subst c20;rw [if_pos rfl] at H;have H' := am H;clear H;(go_wp2_with (first | ((with_reducible refine zQb (f := 63) rfl ?_);refine zQi (some 59) rfl rfl Tryz.func63 (by kernel_rfl) rfl #[.slice A2 l2.length c2,.int .i64 (wrap64 (x10_12 - 2))] rfl pM ?_;(with_reducible refine (r1_Down.calls kj12 _ _ l2 (wrap64 (x10_12 - 2)) t338 t339 _ ?side1 ?side2 A19.out).mono ?_);(case side1 => exact pC (Kd.zQF HR2.out HB.out));(case side2 => exact HC2.out);rintro e w21 ⟨v340,rfl,ho0,hb⟩;refine ⟨_,rfl,?_⟩;have HO341 := am (Kd.zQr (Kd.zQt ho0 (Kd.R_lt (pR HO337.out))) (zQa pB));replace HO337 := am (Kd.zQl (pR HO337.out) (Kd.zQn ho0) hb);replace HB := bS hb;(try clear hb);(try clear ho0))));go_meet
          case rel => exact ⟨_,(t338),(true),pS,H',⟨by have := HJ5.out;have := HJ12.out;first | omega | exact Nat.le_refl _⟩,⟨by (with_reducible repeat (first | apply Kd.zQo | apply Kd.zQj | apply Kd.zQs));exact Kd.zQu HO341.out (fun _ hk => trivial)⟩,⟨pB⟩⟩
         ·replace c20 := Bool.eq_false_iff.mpr c20;subst c20;rw [if_neg (show ¬ (false = true) by decide)] at H;have H' := am H;clear H;(go_wp2_with (first | ((with_reducible refine zQb (f := 63) rfl ?_);refine zQi (some 59) rfl rfl Tryz.func63 (by kernel_rfl) rfl #[.slice A2 l2.length c2,.int .i64 (wrap64 (x10_12 - 2))] rfl pM ?_;(with_reducible refine (r1_Down.calls kj12 _ _ l2 (wrap64 (x10_12 - 2)) t338 t339 _ ?side1 ?side2 A19.out).mono ?_);(case side1 => exact pC (Kd.zQF HR2.out HB.out));(case side2 => exact HC2.out);rintro e w22 ⟨v340,rfl,ho0,hb⟩;refine ⟨_,rfl,?_⟩;have HO341 := am (Kd.zQr (Kd.zQt ho0 (Kd.R_lt (pR HO337.out))) (zQa pB));replace HO337 := am (Kd.zQl (pR HO337.out) (Kd.zQn ho0) hb);replace HB := bS hb;(try clear hb);(try clear ho0))));go_meet
          case rel => exact ⟨_,(t338),(t339),pS,H',⟨by have := HJ5.out;have := HJ12.out;first | omega | exact Nat.le_refl _⟩,⟨by (with_reducible repeat (first | apply Kd.zQo | apply Kd.zQj | apply Kd.zQs));exact Kd.zQu HO341.out (fun _ hk => trivial)⟩,⟨pB⟩⟩
        ·rw [if_neg c18] at H;have c18b0 : decide (2 ≤ x10_12) = false := decide_eq_false c18;clear c18;(first | rw [c18b0] | (simp only [i64_w,i32_w];rw [c18b0]) | rw [c18b1] | (simp only [i64_w,i32_w];rw [c18b1]) | skip);obtain ⟨t342,A23,H⟩ := oB H;(try dsimp only at H);have H' := am H;clear H;(go_wp2_with (first | ((with_reducible refine zQb (f := 38) rfl ?_);refine zQi (some 70) rfl rfl Tryz.func38 (by kernel_rfl) rfl #[.slice A2 l2.length c2,.int .i64 (wrap64 (2 - x10_12))] rfl pM ?_;(with_reducible refine (r1_Up.calls kj12 _ _ l2 (wrap64 (2 - x10_12)) t342 _ ?side1 ?side2 A23.out).mono ?_);(case side1 => exact pC (Kd.zQF HR2.out HB.out));(case side2 => exact HC2.out);rintro e w24 ⟨v343,rfl,ho0,hb⟩;refine ⟨_,rfl,?_⟩;have HO344 := am (Kd.zQr (Kd.zQt ho0 (Kd.R_lt (pR HO337.out))) (zQa pB));replace HO337 := am (Kd.zQl (pR HO337.out) (Kd.zQn ho0) hb);replace HB := bS hb;(try clear hb);(try clear ho0))));go_meet
         case rel => exact ⟨_,(t342),(a3),pS,H',⟨by have := HJ5.out;have := HJ12.out;first | omega | exact Nat.le_refl _⟩,⟨by (with_reducible repeat (first | apply Kd.zQo | apply Kd.zQj | apply Kd.zQs));exact Kd.zQu HO344.out (fun _ hk => trivial)⟩,⟨pB⟩⟩
       case rest =>
        clear HC15;(try clear c1);(try clear c2);(try clear p2);(try clear c3);(try clear c6);(try clear p6);(try clear c7);(try clear c7b0);(try clear c7b1);(try clear c8);(try clear c9);(try clear c11);(try clear c11b0);(try clear c14);(try clear c14b0);(try clear c14b1);(try clear c18);(try clear c18b0);(try clear c18b1);(try clear c20);(try clear p2);(try clear p6);obtain ⟨kq,x12_14,x13_14,rfl,HA,HJ14,HO_12,HB⟩ := hcut
        cases kq with
        | zero => exact absurd HA.out (by simp [r1_Round.j2])
        | succ kj14 =>
         have H := HA.out;clear HA;simp only [r1_Round.j2] at H;obtain ⟨t345,A25,H⟩ := oB H;(try dsimp only at H);obtain ⟨t346,A26,H⟩ := oB H;(try dsimp only at H);have HC27 := am H;clear H;obtain ⟨Ao28,co28,eo28⟩ := Kd.zQv HO_12.out;subst eo28;(go_upto_region 16 with (first | ((with_reducible refine zQb (f := 64) rfl ?_);refine zQi (some 72) rfl rfl Tryz.func64 (by kernel_rfl) rfl #[.slice Ao28 x12_14.length co28] rfl pM ?_;(with_reducible refine (r1_Small.calls _ _ x12_14 t345 _ ?side1 ?side2 A25.out).mono ?_);(case side1 => exact pC (Kd.zQe HO_12.out).2.2);(case side2 => exact (Kd.zQe HO_12.out).2.1);rintro e w' ⟨rfl,⟨nd,rfl⟩⟩;refine ⟨_,rfl,?_⟩) | ((with_reducible refine zQb (f := 64) rfl ?_);refine zQi (some 75) rfl rfl Tryz.func64 (by kernel_rfl) rfl #[.slice Ao28 x12_14.length co28] rfl pM ?_;(with_reducible refine (r1_Small.calls _ _ x12_14 t346 _ ?side1 ?side2 A26.out).mono ?_);(case side1 => exact pC (Kd.zQe HO_12.out).2.2);(case side2 => exact (Kd.zQe HO_12.out).2.1);rintro e w' ⟨rfl,⟨nd,rfl⟩⟩;refine ⟨_,rfl,?_⟩)));(try simp only [Act.put,List.setIfInBounds_toArray,List.set_cons_zero,List.set_cons_succ])
         go_cut [90] (fun v90 wc => ∃ (kq : Nat) (x90_26 : Bool),v90 = .bool x90_26 ∧ Aside0 (r1_Round.j3 kq a0 (wrap64 (a1 + x10_12)) (t345 / 4) x90_26 = some r) ∧ Aside0 (kq ≤ kj14) ∧ Aside0 (Below w.heap.size w wc))
         case first =>
          have H := HC27.out;clear HC27;by_cases c29 : (Go.bits .and .u64 t346 3) > 2
          ·rw [if_pos c29] at H;have c29b0 : decide (2 < (Go.bits .and .u64 t346 3)) = true := decide_eq_true c29;clear c29;(first | rw [c29b0] | (simp only [i64_w,i32_w];rw [c29b0]) | rw [c29b1] | (simp only [i64_w,i32_w];rw [c29b1]) | skip);have H' := am H;clear H;go_wp2;go_meet
           case rel => exact ⟨_,(true),pS,H',⟨by have := HJ5.out;have := HJ12.out;have := HJ14.out;first | omega | exact Nat.le_refl _⟩,⟨pB⟩⟩
          ·rw [if_neg c29] at H;have c29b0 : decide (2 < (Go.bits .and .u64 t346 3)) = false := decide_eq_false c29;clear c29;(first | rw [c29b0] | (simp only [i64_w,i32_w];rw [c29b0]) | rw [c29b1] | (simp only [i64_w,i32_w];rw [c29b1]) | skip);by_cases c30 : (Go.bits .and .u64 t346 3) = 2
           ·rw [if_pos c30] at H;have c30b0 : ((Go.bits .and .u64 t346 3) == 2) = true := beq_iff_eq.mpr c30;have c30b1 : ((Go.bits .and .u64 t346 3) != 2) = false := bne_eq_false_iff_eq.mpr c30;clear c30;by_cases c31 : x13_14 = true
            ·subst c31;rw [if_pos rfl] at H;have H' := am H;clear H;go_wp2;go_meet
             case rel => exact ⟨_,(true),pS,H',⟨by have := HJ5.out;have := HJ12.out;have := HJ14.out;first | omega | exact Nat.le_refl _⟩,⟨pB⟩⟩
            ·replace c31 := Bool.eq_false_iff.mpr c31;subst c31;rw [if_neg (show ¬ (false = true) by decide)] at H;have H' := am H;clear H;go_wp2;go_meet
             case rel => exact ⟨_,(((Int.tmod (t345 / 4) 2) == 1)),pS,H',⟨by have := HJ5.out;have := HJ12.out;have := HJ14.out;first | omega | exact Nat.le_refl _⟩,⟨pB⟩⟩
           ·rw [if_neg c30] at H;have c30b0 : ((Go.bits .and .u64 t346 3) == 2) = false := beq_eq_false_iff_ne.mpr c30;have c30b1 : ((Go.bits .and .u64 t346 3) != 2) = true := bne_iff_ne.mpr c30;have H' := am H;clear H;go_wp2;go_meet
            case rel => exact ⟨_,(false),pS,H',⟨by have := HJ5.out;have := HJ12.out;have := HJ14.out;first | omega | exact Nat.le_refl _⟩,⟨pB⟩⟩
         case rest =>
          clear HC27;(try clear c1);(try clear c2);(try clear p2);(try clear c3);(try clear c6);(try clear p6);(try clear c7);(try clear c7b0);(try clear c7b1);(try clear c8);(try clear c9);(try clear c11);(try clear c11b0);(try clear c14);(try clear c14b0);(try clear c14b1);(try clear c18);(try clear c18b0);(try clear c18b1);(try clear c20);(try clear c29);(try clear c29b0);(try clear c29b1);(try clear c30);(try clear c30b0);(try clear c30b1);(try clear c31);(try clear p2);(try clear p6);obtain ⟨kq,x90_26,rfl,HA,HJ26,HB⟩ := hcut
          cases kq with
          | zero => exact absurd HA.out (by simp [r1_Round.j3])
          | succ kj26 =>
           have H := HA.out;clear HA;simp only [r1_Round.j3] at H;have HC32 := am H;clear H
           go_upto_if 90 with (fail)
           go_cut [16] (fun v16 wc => ∃ (kq : Nat) (x16_31 : Int),v16 = .int .u64 x16_31 ∧ Aside0 (r1_Round.j4 kq a0 (wrap64 (a1 + x10_12)) x16_31 = some r) ∧ Aside0 (kq ≤ kj26) ∧ Aside0 (Below w.heap.size w wc))
           case first =>
            have H := HC32.out;clear HC32;by_cases c33 : x90_26 = true
            ·subst c33;rw [if_pos rfl] at H;have H' := am H;clear H;go_wp2;go_meet
             case rel => exact ⟨_,(IntKind.u64.wrap ((t345 / 4) + 1)),pS,H',⟨by have := HJ5.out;have := HJ12.out;have := HJ14.out;have := HJ26.out;first | omega | exact Nat.le_refl _⟩,⟨pB⟩⟩
            ·replace c33 := Bool.eq_false_iff.mpr c33;subst c33;rw [if_neg (show ¬ (false = true) by decide)] at H;have H' := am H;clear H;go_wp2;go_meet
             case rel => exact ⟨_,((t345 / 4)),pS,H',⟨by have := HJ5.out;have := HJ12.out;have := HJ14.out;have := HJ26.out;first | omega | exact Nat.le_refl _⟩,⟨pB⟩⟩
           case rest =>
            clear HC32;(try clear c1);(try clear c2);(try clear p2);(try clear c3);(try clear c6);(try clear p6);(try clear c7);(try clear c7b0);(try clear c7b1);(try clear c8);(try clear c9);(try clear c11);(try clear c11b0);(try clear c14);(try clear c14b0);(try clear c14b1);(try clear c18);(try clear c18b0);(try clear c18b1);(try clear c20);(try clear c29);(try clear c29b0);(try clear c29b1);(try clear c30);(try clear c30b0);(try clear c30b1);(try clear c31);(try clear c32);(try clear c33);(try clear p2);(try clear p6);obtain ⟨kq,x16_31,rfl,HA,HJ31,HB⟩ := hcut
            cases kq with
            | zero => exact absurd HA.out (by simp [r1_Round.j4])
            | succ kj31 =>
             have H := HA.out;clear HA;simp only [r1_Round.j4] at H;have HC34 := am H;clear H
             go_upto_if 94 with (fail)
             go_cut [11,16] (fun v11 v16 wc => ∃ (kq : Nat) (x11_33 : Int) (x16_33 : Int),v11 = .int .i64 x11_33 ∧ v16 = .int .u64 x16_33 ∧ Aside0 (r1_Round.j5 kq a0 x11_33 x16_33 = some r) ∧ Aside0 (kq ≤ kj31) ∧ Aside0 (Below w.heap.size w wc))
             case first =>
              have H := HC34.out;clear HC34;by_cases c35 : x16_31 = 9007199254740992
              ·rw [if_pos c35] at H;have c35b0 : (x16_31 == 9007199254740992) = true := beq_iff_eq.mpr c35;have c35b1 : (x16_31 != 9007199254740992) = false := bne_eq_false_iff_eq.mpr c35;clear c35;(first | rw [c35b0] | (simp only [i64_w,i32_w];rw [c35b0]) | rw [c35b1] | (simp only [i64_w,i32_w];rw [c35b1]) | skip);have H' := am H;clear H;go_wp2;go_meet
               case rel => exact ⟨_,(wrap64 ((wrap64 (a1 + x10_12)) + 1)),(4503599627370496),pS,pS,H',⟨by have := HJ5.out;have := HJ12.out;have := HJ14.out;have := HJ26.out;have := HJ31.out;first | omega | exact Nat.le_refl _⟩,⟨pB⟩⟩
              ·rw [if_neg c35] at H;have c35b0 : (x16_31 == 9007199254740992) = false := beq_eq_false_iff_ne.mpr c35;have c35b1 : (x16_31 != 9007199254740992) = true := bne_iff_ne.mpr c35;(first | rw [c35b0] | (simp only [i64_w,i32_w];rw [c35b0]) | rw [c35b1] | (simp only [i64_w,i32_w];rw [c35b1]) | skip);have H' := am H;clear H;go_wp2;go_meet
               case rel => exact ⟨_,((wrap64 (a1 + x10_12))),(x16_31),pS,pS,H',⟨by have := HJ5.out;have := HJ12.out;have := HJ14.out;have := HJ26.out;have := HJ31.out;first | omega | exact Nat.le_refl _⟩,⟨pB⟩⟩
             case rest =>
              clear HC34;(try clear c1);(try clear c2);(try clear p2);(try clear c3);(try clear c6);(try clear p6);(try clear c7);(try clear c7b0);(try clear c7b1);(try clear c8);(try clear c9);(try clear c11);(try clear c11b0);(try clear c14);(try clear c14b0);(try clear c14b1);(try clear c18);(try clear c18b0);(try clear c18b1);(try clear c20);(try clear c29);(try clear c29b0);(try clear c29b1);(try clear c30);(try clear c30b0);(try clear c30b1);(try clear c31);(try clear c32);(try clear c33);(try clear c35);(try clear c35b0);(try clear c35b1);(try clear p2);(try clear p6);obtain ⟨kq,x11_33,x16_33,rfl,rfl,HA,HJ33,HB⟩ := hcut
              cases kq with
              | zero => exact absurd HA.out (by simp [r1_Round.j5])
              | succ kj33 =>
               have H := HA.out;clear HA;simp only [r1_Round.j5] at H;by_cases c36 : x11_33 > 971
               ·rw [if_pos c36] at H;have c36b0 : decide (971 < x11_33) = true := decide_eq_true c36;clear c36;obtain ⟨t347,A37,H⟩ := oB H;(try dsimp only at H);obtain rfl := Option.some.inj H;go_wp2_with (first | ((with_reducible refine zQb (f := 32) rfl ?_);refine zQi (some 100) rfl rfl Tryz.func32 (by kernel_rfl) rfl #[.bool a0] rfl pM ?_;(with_reducible refine (r1_Infinite.calls a0 t347 _ A37.out).mono ?_);rintro e w' ⟨rfl,⟨nd,rfl⟩⟩;refine ⟨_,rfl,?_⟩))
                go_ret
                exact ⟨pE,pB⟩
               ·rw [if_neg c36] at H;have c36b0 : decide (971 < x11_33) = false := decide_eq_false c36;clear c36;by_cases c38 : x16_33 < 4503599627370496
                ·rw [if_pos c38] at H;have c38b0 : decide (x16_33 < 4503599627370496) = true := decide_eq_true c38;clear c38;obtain ⟨t348,A39,H⟩ := oB H;(try dsimp only at H);obtain rfl := Option.some.inj H;go_wp2_with (first | ((with_reducible refine zQb (f := 62) rfl ?_);refine zQi (some 104) rfl rfl Tryz.func62 (by kernel_rfl) rfl #[.bool a0] rfl pM ?_;(with_reducible refine (r1_Sign.calls a0 t348 _ A39.out).mono ?_);rintro e w' ⟨rfl,⟨nd,rfl⟩⟩;refine ⟨_,rfl,?_⟩))
                 go_ret
                 exact ⟨pE,pB⟩
                ·rw [if_neg c38] at H;have c38b0 : decide (x16_33 < 4503599627370496) = false := decide_eq_false c38;clear c38;obtain ⟨t349,A40,H⟩ := oB H;(try dsimp only at H);obtain rfl := Option.some.inj H;go_wp2_with (first | ((with_reducible refine zQb (f := 62) rfl ?_);refine zQi (some 108) rfl rfl Tryz.func62 (by kernel_rfl) rfl #[.bool a0] rfl pM ?_;(with_reducible refine (r1_Sign.calls a0 t349 _ A40.out).mono ?_);rintro e w' ⟨rfl,⟨nd,rfl⟩⟩;refine ⟨_,rfl,?_⟩))
                 go_ret
                 exact ⟨pE,pB⟩
def r5_Ten.l0 : Nat → Int → List Int → List Int → Option (List Int)
 | 0,_,_,_ => none
 | k + 1,x0,x3,x4 => if x0 > 0 then (if (Int.tmod x0 2) = 1 then ((r1_Product.f k x3 x4).bind fun t356 => ((r1_Product.f k x4 x4).bind fun t359 => (r5_Ten.l0 k (wrap64 (Int.tdiv x0 2)) t356 t359))) else ((r1_Product.f k x4 x4).bind fun t362 => (r5_Ten.l0 k (wrap64 (Int.tdiv x0 2)) x3 t362))) else (some x3)
def r5_Ten.f (k : Nat) (a0 : Int) : Option (List Int) := r5_Ten.l0 k a0 (([1] : List Int)) (([10] : List Int))
set_option maxHeartbeats 8000000 in
set_option maxRecDepth 100000 in
theorem r5_Ten.calls (k : Nat) (a0 : Int) (r : List Int) (w : World) (h : r5_Ten.f k a0 = some r) :
  Calls Tryz.prog 35 #[.int .i64 a0] w fun e w' => ∃ v0_ : Value,e = .returned (v0_) ∧ Kd.R (Kd.int .u64) 22 w' w.heap.size (fun _ => True) v0_ r ∧ Below w.heap.size w w' := by
 have HB := am (Below.refl w.heap.size w);have H : (r5_Ten.l0 k a0 (([1] : List Int)) (([10] : List Int))) = some r := h;clear h;obtain ⟨y350,hy350⟩ : ∃ y_ : List Int,y_ = (([1] : List Int)) := ⟨_,rfl⟩;(replace H : (r5_Ten.l0 k a0 y350 (([10] : List Int))) = some r := by first | (rw [hy350];with_reducible exact H) | (have H2_ := (Option.bind_some _ _).symm.trans H;rw [hy350];with_reducible exact H2_) | (have H2_ := (Option.bind_some _ _).symm.trans H;with_reducible exact H2_) | with_reducible exact H | (rw [hy350];exact H) | exact H);have Ny350 := am hy350;clear hy350;obtain ⟨y353,hy353⟩ : ∃ y_ : List Int,y_ = (([10] : List Int)) := ⟨_,rfl⟩;(replace H : (r5_Ten.l0 k a0 y350 y353) = some r := by first | (rw [hy353];with_reducible exact H) | (have H2_ := (Option.bind_some _ _).symm.trans H;rw [hy353];with_reducible exact H2_) | (have H2_ := (Option.bind_some _ _).symm.trans H;with_reducible exact H2_) | with_reducible exact H | (rw [hy353];exact H) | exact H);have Ny353 := am hy353;clear hy353;have H' := am H;clear H;go_enter Tryz.func35,Tryz.ntmps35;go_wp2_with (first | ((with_reducible refine zQE (N := 5) rfl ?_);refine Kd.R_lit (Kd.int .u64) _ 22 ?hg (N := 5) ?hd (xs := ([1] : List Int)) (inner := [.int .u64 1]) (ok := fun _ => True) (okp := fun _ => True) ?hr ?hp (fun _ hk => hk) trivial (Below.refl _ _) (Nat.le_refl _) (by simp) ?_;(case hd => rfl);(case hg => rfl);(case hr => first | (go_simp;done) | (go_simp;rfl));(case hp => exact (Reps.one (show Kd.M (Kd.int .u64) _ _ _ 1 [.int .u64 1] from rfl) (Reps.none _ _)));intro v351 w2 ho3 hb hg_ hnew_;clear hg_ hnew_;(first | rw [← Ny350.out] at ho3 | (simp only [Int.reduceToNat] at ho3;rw [← Ny350.out] at ho3));have HO352 := am (Kd.zQr ho3 (zQa pB));replace HB := bS hb;clear hb ho3) | ((with_reducible refine zQE (N := 6) rfl ?_);refine Kd.R_lit (Kd.int .u64) _ 22 ?hg (N := 6) ?hd (xs := ([10] : List Int)) (inner := [.int .u64 10]) (ok := fun _ => True) (okp := fun _ => True) ?hr ?hp (fun _ hk => hk) trivial (Below.refl _ _) (Nat.le_refl _) (by simp) ?_;(case hd => rfl);(case hg => rfl);(case hr => first | (go_simp;done) | (go_simp;rfl));(case hp => exact (Reps.one (show Kd.M (Kd.int .u64) _ _ _ 10 [.int .u64 10] from rfl) (Reps.none _ _)));intro v354 w4 ho5 hb hg_ hnew_;clear hg_ hnew_;(first | rw [← Ny353.out] at ho5 | (simp only [Int.reduceToNat] at ho5;rw [← Ny353.out] at ho5));have HO355 := am (Kd.zQr (Kd.zQt ho5 (Kd.R_lt (pR HO352.out))) (zQa pB));replace HO352 := am (Kd.zQl (pR HO352.out) (Kd.zQn ho5) hb);replace HB := bS hb;clear hb ho5))
 go_loopg [0,3,4] k (fun kq v0 v3 v4 w' => ∃ (x0_1 : Int) (x3_1 : List Int) (x4_1 : List Int),v0 = .int .i64 x0_1 ∧ Aside0 (r5_Ten.l0 kq x0_1 x3_1 x4_1 = some r) ∧ Aside0 (kq ≤ k) ∧ Aside0 (Kd.R (Kd.int .u64) 22 w' w.heap.size (fun k_ => some k_ ≠ (v4 : Value).ownBlock) v3 x3_1) ∧ Aside0 (Kd.R (Kd.int .u64) 22 w' w.heap.size (fun k_ => some k_ ≠ (v3 : Value).ownBlock) v4 x4_1) ∧ Aside0 (Below w.heap.size w w'))
 case atStart => exact ⟨(a0),(y350),(y353),pS,H',⟨Nat.le_refl _⟩,⟨by (with_reducible repeat (first | apply Kd.zQo | apply Kd.zQj | apply Kd.zQs));exact Kd.zQu HO352.out (fun _ hk => hk.2)⟩,⟨by (with_reducible repeat (first | apply Kd.zQo | apply Kd.zQj | apply Kd.zQs));exact Kd.zQu HO355.out (fun _ hk => hk.2)⟩,⟨pB⟩⟩
 case round =>
  clear H';(try clear p2);(try clear c3);obtain ⟨x0_1,x3_1,x4_1,rfl,HA,HK1,HO_3,HO_4,HB⟩ := hrel
  cases gk with
  | zero => exact absurd HA.out (by simp [r5_Ten.l0])
  | succ k1 =>
   have H := HA.out;clear HA;simp only [r5_Ten.l0] at H;by_cases c6 : x0_1 > 0
   ·rw [if_pos c6] at H;have c6b0 : decide (0 < x0_1) = true := decide_eq_true c6;clear c6;by_cases c7 : (Int.tmod x0_1 2) = 1
    ·rw [if_pos c7] at H;have c7b0 : ((Int.tmod x0_1 2) == 1) = true := beq_iff_eq.mpr c7;have c7b1 : ((Int.tmod x0_1 2) != 1) = false := bne_eq_false_iff_eq.mpr c7;clear c7;obtain ⟨t356,A8,H⟩ := oB H;(try dsimp only at H);obtain ⟨t359,A9,H⟩ := oB H;(try dsimp only at H);have H' := am H;clear H;obtain ⟨Ao10,co10,eo10⟩ := Kd.zQv HO_3.out;subst eo10;obtain ⟨Ao11,co11,eo11⟩ := Kd.zQv HO_4.out;subst eo11;go_wp2_with (first | ((with_reducible refine zQb (f := 34) rfl ?_);refine zQi (some 14) rfl rfl Tryz.func34 (by kernel_rfl) rfl #[.slice Ao10 x3_1.length co10,.slice Ao11 x4_1.length co11] rfl pM ?_;(with_reducible refine (r1_Product.calls k1 _ _ x3_1 _ _ x4_1 t356 _ ?side1 ?side2 ?side3 ?side4 A8.out).mono ?_);(case side1 => exact pC (Kd.zQe HO_3.out).2.2);(case side2 => exact (Kd.zQe HO_3.out).2.1);(case side3 => exact pC (Kd.zQe HO_4.out).2.2);(case side4 => exact (Kd.zQe HO_4.out).2.1);rintro e w12 ⟨v357,rfl,ho0,hb⟩;refine ⟨_,rfl,?_⟩;have HO358 := am (Kd.zQr (Kd.zQt (Kd.zQt ho0 (Kd.R_lt (pR HO_3.out))) (Kd.R_lt (pR HO_4.out))) (zQa pB));replace HO_3 := am (Kd.zQl (pR HO_3.out) (Kd.zQn ho0) hb);replace HO_4 := am (Kd.zQl (pR HO_4.out) (Kd.zQn ho0) hb);replace HB := bS hb;(try clear hb);(try clear ho0)) | ((with_reducible refine zQb (f := 34) rfl ?_);refine zQi (some 17) rfl rfl Tryz.func34 (by kernel_rfl) rfl #[.slice Ao11 x4_1.length co11,.slice Ao11 x4_1.length co11] rfl pM ?_;(with_reducible refine (r1_Product.calls k1 _ _ x4_1 _ _ x4_1 t359 _ ?side1 ?side2 ?side3 ?side4 A9.out).mono ?_);(case side1 => exact pC (Kd.zQe HO_4.out).2.2);(case side2 => exact (Kd.zQe HO_4.out).2.1);(case side3 => exact pC (Kd.zQe HO_4.out).2.2);(case side4 => exact (Kd.zQe HO_4.out).2.1);rintro e w13 ⟨v360,rfl,ho0,hb⟩;refine ⟨_,rfl,?_⟩;have HO361 := am (Kd.zQr (Kd.zQt (Kd.zQt (Kd.zQt ho0 (Kd.R_lt (pR HO_3.out))) (Kd.R_lt (pR HO_4.out))) (Kd.R_lt (pR HO358.out))) (zQa pB));replace HO_3 := am (Kd.zQl (pR HO_3.out) (Kd.zQn ho0) hb);replace HO_4 := am (Kd.zQl (pR HO_4.out) (Kd.zQn ho0) hb);replace HO358 := am (Kd.zQl (pR HO358.out) (Kd.zQn ho0) hb);replace HB := bS hb;(try clear hb);(try clear ho0)))
     go_roundg k1
     case measure => have := HK1.out;omega
     case rel => exact ⟨(wrap64 (Int.tdiv x0_1 2)),(t356),(t359),pS,H',⟨by have := HK1.out;omega⟩,⟨by (with_reducible repeat (first | apply Kd.zQo | apply Kd.zQj | apply Kd.zQs));exact Kd.zQu HO358.out (fun _ hk => hk.2)⟩,⟨by (with_reducible repeat (first | apply Kd.zQo | apply Kd.zQj | apply Kd.zQs));exact Kd.zQu HO361.out (fun _ hk => hk.2)⟩,⟨pB⟩⟩
    ·rw [if_neg c7] at H;have c7b0 : ((Int.tmod x0_1 2) == 1) = false := beq_eq_false_iff_ne.mpr c7;have c7b1 : ((Int.tmod x0_1 2) != 1) = true := bne_iff_ne.mpr c7;obtain ⟨t362,A14,H⟩ := oB H;(try dsimp only at H);have H' := am H;clear H;obtain ⟨Ao15,co15,eo15⟩ := Kd.zQv HO_4.out;subst eo15;go_wp2_with (first | ((with_reducible refine zQb (f := 34) rfl ?_);refine zQi (some 17) rfl rfl Tryz.func34 (by kernel_rfl) rfl #[.slice Ao15 x4_1.length co15,.slice Ao15 x4_1.length co15] rfl pM ?_;(with_reducible refine (r1_Product.calls k1 _ _ x4_1 _ _ x4_1 t362 _ ?side1 ?side2 ?side3 ?side4 A14.out).mono ?_);(case side1 => exact pC (Kd.zQe HO_4.out).2.2);(case side2 => exact (Kd.zQe HO_4.out).2.1);(case side3 => exact pC (Kd.zQe HO_4.out).2.2);(case side4 => exact (Kd.zQe HO_4.out).2.1);rintro e w16 ⟨v363,rfl,ho0,hb⟩;refine ⟨_,rfl,?_⟩;have HO364 := am (Kd.zQr (Kd.zQt (Kd.zQt ho0 (Kd.R_lt (pR HO_3.out))) (Kd.R_lt (pR HO_4.out))) (zQa pB));replace HO_3 := am (Kd.zQl (pR HO_3.out) (Kd.zQn ho0) hb);replace HO_4 := am (Kd.zQl (pR HO_4.out) (Kd.zQn ho0) hb);replace HB := bS hb;(try clear hb);(try clear ho0)))
     go_roundg k1
     case measure => have := HK1.out;omega
     case rel => exact ⟨(wrap64 (Int.tdiv x0_1 2)),(x3_1),(t362),pS,H',⟨by have := HK1.out;omega⟩,⟨by (with_reducible repeat (first | apply Kd.zQo | apply Kd.zQj | apply Kd.zQs));exact Kd.zQu HO_3.out (fun _ hk => hk.2)⟩,⟨by (with_reducible repeat (first | apply Kd.zQo | apply Kd.zQj | apply Kd.zQs));exact Kd.zQu HO364.out (fun _ hk => hk.1.2)⟩,⟨pB⟩⟩
   ·rw [if_neg c6] at H;have c6b0 : decide (0 < x0_1) = false := decide_eq_false c6;clear c6;obtain rfl := Option.some.inj H;go_wp2
    go_ret
    exact ⟨_,pE,by (with_reducible repeat (first | apply Kd.zQo | apply Kd.zQj | apply Kd.zQs));exact Kd.zQu HO_3.out (fun _ hk => trivial),pB⟩
end Go.Proofs.YtflcanpajgpghaaGreatDoor.Pr
end
section
namespace Go.Proofs.YtflcanpajgpghaaGreatDoor.Pr
open Go.RowKit Go.Proofs.YtflcanpajgpghaaGreatDoorW.PrintWords Go.Proofs.YtflcanpajgpghaaGreatDoorW.PrintLast Go.Proofs.YtflcanpajgpghaaGreatDoorW.PrintMore
attribute [local go_sem] zXe zXc zXn zXm zQV zQU zXd zXb
end Go.Proofs.YtflcanpajgpghaaGreatDoor.Pr
end
