/- A part of the proof of the law that RowDecParses shows: lemmas, and contracts of the calls that it reaches. -/
import Derived.Test.YtflcanpajgpghaaGreatDoorProg
import Derived.Below
import Derived.Deep.Draws
import Derived.Deep.AppendLies
import Derived.Maps.AppendAt
import Derived.OwnWalk
import Derived.Laws.BytesArg
import Derived.Laws.MakeOwn
import Derived.Laws.OwnMore
import Derived.Deep.OwnRows
import Derived.Tactics
import Derived.Lib.ConvBytes
import Derived.Laws.Slices
import Derived.WalkKit
import Derived.KernelRfl
import Derived.RowKit3
import Derived.Deep.LoopGhost
import Derived.Deep.QuietTactic
import Derived.BigQuiet
import Derived.WideLaws
import Derived.Deep.DeepCutAuto
import Derived.Deep.CutBlock
import Derived.Deep.RegionHeld3
import Derived.Laws.Rows
import Derived.Lib.AppendStr
import Derived.ArgAppend
import Derived.Laws.IdiomCopy
import Derived.OrdersHeld
import Derived.Laws.BitsLemmas
import Derived.RowKit
import Derived.Test.YtflcanpajgpghaaGreatDoorZDP0
import Derived.Test.YtflcanpajgpghaaGreatDoorZDP1
set_option linter.unusedVariables false
set_option linter.unusedSimpArgs false
section
namespace Go.Proofs.YtflcanpajgpghaaGreatDoor.Pr
open Go.RowKit Go.Proofs.YtflcanpajgpghaaGreatDoorW.PrintWords Go.Proofs.YtflcanpajgpghaaGreatDoorW.PrintLast Go.Proofs.YtflcanpajgpghaaGreatDoorW.PrintMore
attribute [local go_sem] zXm zXk zXy zXx zXa zQZ zXl zXj
def b_minus.l0 : Nat → List Int → List Int → Int → List Int → Int → Int → Option (List Int)
 | 0,_,_,_,_,_,_ => none
 | k + 1,x1,x5,x6,x14,x15,x16 => if x16 < x15 then (if 0 ≤ x16 then (if x16 < (x14.length : Int) then (if x16 < (x1.length : Int) then (if x5.length < 35184372088832 then (b_minus.l0 k x1 (x5 ++ [(IntKind.u64.wrap ((IntKind.u64.wrap (rd x14 x16)) - (IntKind.u64.wrap (x6 + (IntKind.u64.wrap (rd x1 x16)))))) % 4294967296]) ((IntKind.u64.wrap ((IntKind.u64.wrap (rd x14 x16)) - (IntKind.u64.wrap (x6 + (IntKind.u64.wrap (rd x1 x16)))))) / 9223372036854775808) x14 x15 (wrap64 (x16 + 1))) else (none)) else (if x5.length < 35184372088832 then (b_minus.l0 k x1 (x5 ++ [(IntKind.u64.wrap ((IntKind.u64.wrap (rd x14 x16)) - x6)) % 4294967296]) ((IntKind.u64.wrap ((IntKind.u64.wrap (rd x14 x16)) - x6)) / 9223372036854775808) x14 x15 (wrap64 (x16 + 1))) else (none))) else (none)) else (none)) else ((b_trim.f k x5).bind fun t194 => (some t194))
def b_minus.f (k : Nat) (l0 : List Int) (l1 : List Int) : Option (List Int) := if 0 ≤ (l0.length : Int) then (if ((l0.length : Int) : Int).toNat ≤ 70368744177664 then (b_minus.l0 k l1 (List.replicate 0 0) 0 l0 (l0.length : Int) 0) else (none)) else (none)
theorem b_minus.mono_l : ∀ k,(∀ y0 y1 y2 y3 y4 y5,LeO (b_minus.l0 k y0 y1 y2 y3 y4 y5) (b_minus.l0 (k + 1) y0 y1 y2 y3 y4 y5))
 | 0 => fun _ _ _ _ _ _ r h => by simp [b_minus.l0] at h
 | k + 1 => by
  have ih0 := b_minus.mono_l k
  ·intro y0 y1 y2 y3 y4 y5
   unfold b_minus.l0
   repeat' first
   | (with_reducible exact ih0 _ _ _ _ _ _)
   | (with_reducible exact b_trim.mono _ _)
   | (with_reducible exact LeO.refl _)
   | (with_reducible exact LeO.none _)
   | (with_reducible refine LeO.ite ?_ ?_)
   | (with_reducible refine LeO.bind ?_ (fun _ => ?_))
   | exact ih0 _ _ _ _ _ _
   | exact b_trim.mono _ _
   | exact LeO.none _
   | refine LeO.ite ?_ ?_
   | refine LeO.bind ?_ (fun _ => ?_)
theorem b_minus.mono : ∀ a0 a1 k,LeO (b_minus.f k a0 a1) (b_minus.f (k + 1) a0 a1) := by
 intro a0 a1 k
 have ih0 := b_minus.mono_l k
 unfold b_minus.f
 repeat' first
   | (with_reducible exact ih0 _ _ _ _ _ _)
   | (with_reducible exact b_trim.mono _ _)
   | (with_reducible exact LeO.refl _)
   | (with_reducible exact LeO.none _)
   | (with_reducible refine LeO.ite ?_ ?_)
   | (with_reducible refine LeO.bind ?_ (fun _ => ?_))
   | exact ih0 _ _ _ _ _ _
   | exact b_trim.mono _ _
   | exact LeO.none _
   | refine LeO.ite ?_ ?_
   | refine LeO.bind ?_ (fun _ => ?_)
set_option maxHeartbeats 8000000 in
set_option maxRecDepth 100000 in
theorem b_minus.calls (k : Nat) (A0 : Option Addr) (c0 : Nat) (l0 : List Int) (A1 : Option Addr) (c1 : Nat) (l1 : List Int) (r : List Int) (w : World) (hr0 : Kd.C (Kd.int .u32) w A0 l0.length l0) (hc0 : l0.length ≤ c0) (hr1 : Kd.C (Kd.int .u32) w A1 l1.length l1) (hc1 : l1.length ≤ c1) (h : b_minus.f k l0 l1 = some r) :
  Calls Tryz.prog 46 #[.slice A0 l0.length c0,.slice A1 l1.length c1] w fun e w' => ∃ v0_ : Value,e = .returned (v0_) ∧ Kd.V (Kd.int .u32) 52 w' w.heap.size (fun k_ => (w.heap.size ≤ k_)) v0_ r ∧ Below w.heap.size w w' := by
 have HR0 := am hr0
 have HC0 := am hc0
 clear hr0 hc0
 have HR1 := am hr1
 have HC1 := am hc1
 clear hr1 hc1
 have HB := am (Below.refl w.heap.size w)
 have H : (if 0 ≤ (l0.length : Int) then (if ((l0.length : Int) : Int).toNat ≤ 70368744177664 then (b_minus.l0 k l1 (List.replicate 0 0) 0 l0 (l0.length : Int) 0) else (none)) else (none)) = some r := h
 clear h
 by_cases c3 : 0 ≤ (l0.length : Int)
 ·rw [if_pos c3] at H
  have c3b0 := eq_true c3
  have c3b1 : decide (0 ≤ (l0.length : Int)) = true := decide_eq_true c3
  clear c3
  by_cases c4 : ((l0.length : Int) : Int).toNat ≤ 70368744177664
  ·rw [if_pos c4] at H
   have c4b0 := eq_true c4
   have c4b1 : decide (((l0.length : Int) : Int).toNat ≤ 70368744177664) = true := decide_eq_true c4
   clear c4
   obtain ⟨y183,hy183⟩ : ∃ y_ : List Int,y_ = (List.replicate 0 0) := ⟨_,rfl⟩
   replace H : (b_minus.l0 k l1 y183 0 l0 (l0.length : Int) 0) = some r := by first | (rw [hy183];with_reducible exact H) | (have H2_ := (Option.bind_some _ _).symm.trans H;rw [hy183];with_reducible exact H2_) | (have H2_ := (Option.bind_some _ _).symm.trans H;with_reducible exact H2_) | with_reducible exact H | (rw [hy183];exact H) | exact H
   have Ny183 := am hy183
   clear hy183
   have H' := am H
   clear H
   go_enter Tryz.func46,Tryz.ntmps46
   go_wp2_with (first | ((with_reducible refine zQJ (N := 13) rfl ?_);refine zKa (Kd.int .u32) _ 52 rfl (N := 13) rfl 50 _ _ rfl 0 (l0.length : Int) rfl rfl Tryz.underlying50 (.int .u32 0) 4 zXO rfl (by decide) (by omega) 0 (ok := fun _ => True) (okp := fun _ => True) rfl (fun _ hk => hk) trivial (by omega) pD (Nat.le_trans (Nat.mul_le_mul_right _ (pD : (l0.length : Int).toNat ≤ 70368744177664)) (by omega)) (Below.refl _ _) (Nat.le_refl _) ?_;intro v184 w5 ho6 hb hg_ hnew_;clear hg_ hnew_;(first | rw [← Ny183.out] at ho6 | (simp only [Int.reduceToNat] at ho6;rw [← Ny183.out] at ho6));have HO185 := am (Kd.zQy (Kd.zYm (M := fun k_ => (w.heap.size ≤ k_)) ho6 (zQc pB) (fun k_ h_ => h_)) (zQc pB));replace HB := am (zQf pB hb);clear hb ho6))
   go_loopg [5,6,16] k (fun kq v5 v6 v16 w' => ∃ (x5_1 : List Int) (x6_1 : Int) (x16_1 : Int),v6 = .int .u64 x6_1 ∧ v16 = .int .i64 x16_1 ∧ Aside0 (b_minus.l0 kq l1 x5_1 x6_1 l0 (l0.length : Int) x16_1 = some r) ∧ Aside0 (kq ≤ k) ∧ Aside0 (Kd.R (Kd.int .u32) 52 w' w.heap.size (fun k_ => (w.heap.size ≤ k_)) v5 x5_1) ∧ Aside0 (Below w.heap.size w w'))
   case atStart => exact ⟨(y183),(0),(0),(by first | rfl | (simp;done) | (simp [*];done)),(by first | rfl | (simp;done) | (simp [*];done)),H',⟨Nat.le_refl _⟩,⟨by (with_reducible repeat (first | apply Kd.zQw | apply Kd.zQu | apply Kd.zQx));exact Kd.zQE HO185.out (fun _ hk => hk.1)⟩,⟨pB⟩⟩
   case round =>
    clear H'
    try clear c1
    try clear p2
    try clear c3
    try clear c3b0
    try clear c3b1
    try clear c4
    try clear c4b0
    try clear c4b1
    obtain ⟨x5_1,x6_1,x16_1,rfl,rfl,HA,HK1,HO_5,HB⟩ := hrel
    cases gk with
    | zero => exact absurd HA.out (by simp [b_minus.l0])
    | succ k1 =>
     have H := HA.out
     clear HA
     simp only [b_minus.l0] at H
     by_cases c7 : x16_1 < (l0.length : Int)
     ·rw [if_pos c7] at H
      have c7b0 : decide (x16_1 < (l0.length : Int)) = true := decide_eq_true c7
      clear c7
      by_cases c8 : 0 ≤ x16_1
      ·rw [if_pos c8] at H
       have c8b0 : decide (0 ≤ x16_1) = true := decide_eq_true c8
       clear c8
       by_cases c9 : x16_1 < (l0.length : Int)
       ·rw [if_pos c9] at H
        have c9b0 : decide (x16_1 < (l0.length : Int)) = true := decide_eq_true c9
        clear c9
        by_cases c10 : x16_1 < (l1.length : Int)
        ·rw [if_pos c10] at H
         have c10b0 : decide (x16_1 < (l1.length : Int)) = true := decide_eq_true c10
         clear c10
         by_cases c11 : x5_1.length < 35184372088832
         ·rw [if_pos c11] at H
          have LMc11 := am c11
          clear c11
          obtain ⟨y188,hy188⟩ : ∃ y_ : List Int,y_ = (x5_1 ++ [(IntKind.u64.wrap ((IntKind.u64.wrap (rd l0 x16_1)) - (IntKind.u64.wrap (x6_1 + (IntKind.u64.wrap (rd l1 x16_1)))))) % 4294967296]) := ⟨_,rfl⟩
          replace H : (b_minus.l0 k1 l1 y188 ((IntKind.u64.wrap ((IntKind.u64.wrap (rd l0 x16_1)) - (IntKind.u64.wrap (x6_1 + (IntKind.u64.wrap (rd l1 x16_1)))))) / 9223372036854775808) l0 (l0.length : Int) (wrap64 (x16_1 + 1))) = some r := by first | (rw [hy188];with_reducible exact H) | (have H2_ := (Option.bind_some _ _).symm.trans H;rw [hy188];with_reducible exact H2_) | (have H2_ := (Option.bind_some _ _).symm.trans H;with_reducible exact H2_) | with_reducible exact H | (rw [hy188];exact H) | exact H
          have Ny188 := am hy188
          clear hy188
          have H' := am H
          clear H
          have p186 : 0 ≤ (x16_1 : Int) := pD
          have q186 : x16_1 < (l0.length : Int) := pD
          obtain ⟨ad186,e186,hx186_0⟩ := Kd.zXe HR0.out x16_1 p186 q186
          cases e186
          replace hx186_0 := (HB.out.cell (World.block_lt_of_cell? w _ hx186_0)).trans hx186_0
          replace p186 := eq_true p186
          replace q186 := eq_true q186
          have p187 : 0 ≤ (x16_1 : Int) := pD
          have q187 : x16_1 < (l1.length : Int) := pD
          obtain ⟨ad187,e187,hx187_0⟩ := Kd.zXe HR1.out x16_1 p187 q187
          cases e187
          replace hx187_0 := (HB.out.cell (World.block_lt_of_cell? w _ hx187_0)).trans hx187_0
          replace p187 := eq_true p187
          replace q187 := eq_true q187
          go_wp2_with (first | ((with_reducible refine zQD (b := .append) (xs := #[.tmp 37,.tmp 40]) rfl ?_);at_builtin;refine Kd.zQU (Kd.int .u32) (w0 := w) w.heap.size rfl (.tmp 37) (.tmp 40) 50 52 (.int .u32 0) 4 rfl Tryz.underlying50 zXO rfl (by decide) (by omega) u5 x5_1 ((IntKind.u64.wrap ((IntKind.u64.wrap (rd l0 x16_1)) - (IntKind.u64.wrap (x6_1 + (IntKind.u64.wrap (rd l1 x16_1)))))) % 4294967296) [.int .u32 ((IntKind.u64.wrap ((IntKind.u64.wrap (rd l0 x16_1)) - (IntKind.u64.wrap (x6_1 + (IntKind.u64.wrap (rd l1 x16_1)))))) % 4294967296)] (fun k_ => (w.heap.size ≤ k_)) (fun _ => False) rfl rfl ?aP (fun _ hk => hk.elim) ?aF ?aO ?aB ?aS ?aL ?_;(case aP => exact rfl);(case aB => exact pB);(case aF => exact (fun k_ hk => (Nat.le_trans (zQc pB) hk)));(case aO => exact (pR HO_5.out));(case aS => exact (zQc pB));(case aL => have := LMc11.out;omega);intro v189 w12 ho hb hg hat;rw [← Ny188.out] at ho;replace HB := am (hb);have HO190 := am (ho);clear HO_5;clear ho hb hg hat))
          go_roundg k1
          case measure => have := HK1.out;omega
          case rel => exact ⟨(y188),((IntKind.u64.wrap ((IntKind.u64.wrap (rd l0 x16_1)) - (IntKind.u64.wrap (x6_1 + (IntKind.u64.wrap (rd l1 x16_1)))))) / 9223372036854775808),(wrap64 (x16_1 + 1)),(by first | rfl | (simp;done) | (simp [*];done)),(by first | rfl | (simp;done) | (simp [*];done)),H',⟨by have := HK1.out;omega⟩,⟨by (with_reducible repeat (first | apply Kd.zQw | apply Kd.zQu | apply Kd.zQx));exact HO190.out⟩,⟨pB⟩⟩
         ·rw [if_neg c11] at H
          exact absurd H (by simp)
        ·rw [if_neg c10] at H
         have c10b0 : decide (x16_1 < (l1.length : Int)) = false := decide_eq_false c10
         clear c10
         by_cases c13 : x5_1.length < 35184372088832
         ·rw [if_pos c13] at H
          have LMc13 := am c13
          clear c13
          obtain ⟨y191,hy191⟩ : ∃ y_ : List Int,y_ = (x5_1 ++ [(IntKind.u64.wrap ((IntKind.u64.wrap (rd l0 x16_1)) - x6_1)) % 4294967296]) := ⟨_,rfl⟩
          replace H : (b_minus.l0 k1 l1 y191 ((IntKind.u64.wrap ((IntKind.u64.wrap (rd l0 x16_1)) - x6_1)) / 9223372036854775808) l0 (l0.length : Int) (wrap64 (x16_1 + 1))) = some r := by first | (rw [hy191];with_reducible exact H) | (have H2_ := (Option.bind_some _ _).symm.trans H;rw [hy191];with_reducible exact H2_) | (have H2_ := (Option.bind_some _ _).symm.trans H;with_reducible exact H2_) | with_reducible exact H | (rw [hy191];exact H) | exact H
          have Ny191 := am hy191
          clear hy191
          have H' := am H
          clear H
          have p186 : 0 ≤ (x16_1 : Int) := pD
          have q186 : x16_1 < (l0.length : Int) := pD
          obtain ⟨ad186,e186,hx186_0⟩ := Kd.zXe HR0.out x16_1 p186 q186
          cases e186
          replace hx186_0 := (HB.out.cell (World.block_lt_of_cell? w _ hx186_0)).trans hx186_0
          replace p186 := eq_true p186
          replace q186 := eq_true q186
          go_wp2_with (first | ((with_reducible refine zQD (b := .append) (xs := #[.tmp 37,.tmp 40]) rfl ?_);at_builtin;refine Kd.zQU (Kd.int .u32) (w0 := w) w.heap.size rfl (.tmp 37) (.tmp 40) 50 52 (.int .u32 0) 4 rfl Tryz.underlying50 zXO rfl (by decide) (by omega) u5 x5_1 ((IntKind.u64.wrap ((IntKind.u64.wrap (rd l0 x16_1)) - x6_1)) % 4294967296) [.int .u32 ((IntKind.u64.wrap ((IntKind.u64.wrap (rd l0 x16_1)) - x6_1)) % 4294967296)] (fun k_ => (w.heap.size ≤ k_)) (fun _ => False) rfl rfl ?aP (fun _ hk => hk.elim) ?aF ?aO ?aB ?aS ?aL ?_;(case aP => exact rfl);(case aB => exact pB);(case aF => exact (fun k_ hk => (Nat.le_trans (zQc pB) hk)));(case aO => exact (pR HO_5.out));(case aS => exact (zQc pB));(case aL => have := LMc13.out;omega);intro v192 w14 ho hb hg hat;rw [← Ny191.out] at ho;replace HB := am (hb);have HO193 := am (ho);clear HO_5;clear ho hb hg hat))
          go_roundg k1
          case measure => have := HK1.out;omega
          case rel => exact ⟨(y191),((IntKind.u64.wrap ((IntKind.u64.wrap (rd l0 x16_1)) - x6_1)) / 9223372036854775808),(wrap64 (x16_1 + 1)),(by first | rfl | (simp;done) | (simp [*];done)),(by first | rfl | (simp;done) | (simp [*];done)),H',⟨by have := HK1.out;omega⟩,⟨by (with_reducible repeat (first | apply Kd.zQw | apply Kd.zQu | apply Kd.zQx));exact HO193.out⟩,⟨pB⟩⟩
         ·rw [if_neg c13] at H
          exact absurd H (by simp)
       ·rw [if_neg c9] at H
        exact absurd H (by simp)
      ·rw [if_neg c8] at H
       exact absurd H (by simp)
     ·rw [if_neg c7] at H
      have c7b0 : decide (x16_1 < (l0.length : Int)) = false := decide_eq_false c7
      clear c7
      replace H := Option.bind_eq_some_iff.mp H
      obtain ⟨t194,A150,H⟩ := H
      try dsimp only at H
      have A15 := am A150
      clear A150
      obtain rfl := Option.some.inj H
      obtain ⟨Ao16,co16,eo16⟩ := Kd.zQB HO_5.out
      subst eo16
      go_wp2_with (first | ((with_reducible refine zQe (f := 57) rfl ?_);refine zQr (some 46) rfl rfl Tryz.func57 (by kernel_rfl) rfl #[.slice Ao16 x5_1.length co16] rfl pM ?_;(with_reducible refine (b_trim.calls k1 (fun k_ => some k_ = (.slice Ao16 x5_1.length co16 : Value).ownBlock) _ _ x5_1 t194 _ ?side1 A15.out).mono ?_);(case side1 => exact Kd.R_V (Kd.zXQ rfl (HO_5.out)));rintro e w17 ⟨v195,rfl,ho0,hb⟩;refine ⟨_,rfl,?_⟩;have HO196 := am (Kd.zQQ (Kd.zQk (ok' := fun k_ => (w.heap.size ≤ k_)) ho0 (fun k_ hk_ => Or.elim hk_ (fun hs_ => ((HO_5.out).1 k_ hs_.symm)) (fun hn_ => (Nat.le_trans (zQc pB) hn_)))) (zQc pB));replace HO_5 := am (Kd.zQH (pR HO_5.out) hb);replace HB := am (zQf pB hb);(try clear hb);(try clear ho0)))
      go_ret
      exact ⟨_,pE,by (with_reducible repeat (first | apply Kd.zQn | apply Kd.zQm | apply Kd.zQo));exact HO196.out,pB⟩
  ·rw [if_neg c4] at H
   exact absurd H (by simp)
 ·rw [if_neg c3] at H
  exact absurd H (by simp)
def b_by.l0 : Nat → List Int → List Int → Int → Int → Option (Int × Bool)
 | 0,_,_,_,_ => none
 | k + 1,x0,x1,x6,x7 => if x7 ≥ 0 then ((b_len.f x0).bind fun t197 => ((b_len.f x1).bind fun t198 => (if t197 < (wrap64 (t198 + x7)) then (b_by.l0 k x0 x1 x6 (wrap64 (x7 - 1))) else ((b_up.f k x1 x7).bind fun t199 => ((b_cmp.f k x0 t199).bind fun t202 => (if t202 ≥ 0 then ((b_minus.f k x0 t199).bind fun t203 => (if 0 ≤ x7 then (b_by.l0 k t203 x1 (Go.bits .or .u64 x6 (shl .u64 1 x7)) (wrap64 (x7 - 1))) else (none))) else (b_by.l0 k x0 x1 x6 (wrap64 (x7 - 1))))))))) else (some (x6,decide ((x0.length : Int) > 0)))
def b_by.f (k : Nat) (l0 : List Int) (l1 : List Int) : Option (Int × Bool) := b_by.l0 k l0 l1 0 63
theorem b_by.mono_l : ∀ k,(∀ y0 y1 y2 y3,LeO (b_by.l0 k y0 y1 y2 y3) (b_by.l0 (k + 1) y0 y1 y2 y3))
 | 0 => fun _ _ _ _ r h => by simp [b_by.l0] at h
 | k + 1 => by
  have ih0 := b_by.mono_l k
  ·intro y0 y1 y2 y3
   unfold b_by.l0
   repeat' first
   | (with_reducible exact ih0 _ _ _ _)
   | (with_reducible exact b_cmp.mono _ _ _)
   | (with_reducible exact b_minus.mono _ _ _)
   | (with_reducible exact b_up.mono _ _ _)
   | (with_reducible exact LeO.refl _)
   | (with_reducible exact LeO.none _)
   | (with_reducible refine LeO.ite ?_ ?_)
   | (with_reducible refine LeO.bind ?_ (fun _ => ?_))
   | exact ih0 _ _ _ _
   | exact b_cmp.mono _ _ _
   | exact b_minus.mono _ _ _
   | exact b_up.mono _ _ _
   | exact LeO.none _
   | refine LeO.ite ?_ ?_
   | refine LeO.bind ?_ (fun _ => ?_)
theorem b_by.mono : ∀ a0 a1 k,LeO (b_by.f k a0 a1) (b_by.f (k + 1) a0 a1) := by
 intro a0 a1 k
 have ih0 := b_by.mono_l k
 unfold b_by.f
 repeat' first
   | (with_reducible exact ih0 _ _ _ _)
   | (with_reducible exact b_cmp.mono _ _ _)
   | (with_reducible exact b_minus.mono _ _ _)
   | (with_reducible exact b_up.mono _ _ _)
   | (with_reducible exact LeO.refl _)
   | (with_reducible exact LeO.none _)
   | (with_reducible refine LeO.ite ?_ ?_)
   | (with_reducible refine LeO.bind ?_ (fun _ => ?_))
   | exact ih0 _ _ _ _
   | exact b_cmp.mono _ _ _
   | exact b_minus.mono _ _ _
   | exact b_up.mono _ _ _
   | exact LeO.none _
   | refine LeO.ite ?_ ?_
   | refine LeO.bind ?_ (fun _ => ?_)
set_option maxHeartbeats 8000000 in
set_option maxRecDepth 100000 in
theorem b_by.calls (k : Nat) (P0_ : Nat → Prop) (A0 : Option Addr) (c0 : Nat) (l0 : List Int) (A1 : Option Addr) (c1 : Nat) (l1 : List Int) (r1 : Int) (r2 : Bool) (w : World) (hs0 : Kd.V (Kd.int .u32) 52 w w.heap.size (fun k_ => P0_ k_) (.slice A0 l0.length c0) l0) (hr1 : Kd.C (Kd.int .u32) w A1 l1.length l1) (hc1 : l1.length ≤ c1) (h : b_by.f k l0 l1 = some (r1,r2)) :
  Calls Tryz.prog 29 #[.slice A0 l0.length c0,.slice A1 l1.length c1] w fun e w' => e = .returned (.tuple #[.int .u64 r1,.bool r2]) ∧ Below w.heap.size w w' := by
 have HO0 := am (show Kd.V (Kd.int .u32) 52 w w.heap.size (fun k_ => (P0_ k_ ∨ w.heap.size ≤ k_)) (.slice A0 l0.length c0) l0 from Kd.zQk hs0 (fun k_ hk => .inl hk))
 have HR1 := am hr1
 have HC1 := am hc1
 clear hr1 hc1
 have HB := am (Below.refl w.heap.size w)
 have H : (b_by.l0 k l0 l1 0 63) = some (r1,r2) := h
 clear h
 have H' := am H
 clear H
 go_enter Tryz.func29,Tryz.ntmps29
 go_wp2
 go_loopg [0,6,7] k (fun kq v0 v6 v7 w' => ∃ (x0_1 : List Int) (x6_1 : Int) (x7_1 : Int),v6 = .int .u64 x6_1 ∧ v7 = .int .i64 x7_1 ∧ Aside0 (b_by.l0 kq x0_1 l1 x6_1 x7_1 = some (r1,r2)) ∧ Aside0 (kq ≤ k) ∧ Aside0 (Kd.V (Kd.int .u32) 52 w' w.heap.size (fun k_ => (P0_ k_ ∨ w.heap.size ≤ k_)) v0 x0_1) ∧ Aside0 (Below w.heap.size w w'))
 case atStart => exact ⟨(l0),(0),(63),(by first | rfl | (simp;done) | (simp [*];done)),(by first | rfl | (simp;done) | (simp [*];done)),H',⟨Nat.le_refl _⟩,⟨by (with_reducible repeat (first | apply Kd.zQn | apply Kd.zQm | apply Kd.zQo));exact HO0.out⟩,⟨pB⟩⟩
 case round =>
  clear H'
  try clear c1
  try clear c2
  try clear p2
  obtain ⟨x0_1,x6_1,x7_1,rfl,rfl,HA,HK1,HO_0,HB⟩ := hrel
  cases gk with
  | zero => exact absurd HA.out (by simp [b_by.l0])
  | succ k1 =>
   have H := HA.out
   clear HA
   simp only [b_by.l0] at H
   by_cases c3 : x7_1 ≥ 0
   ·rw [if_pos c3] at H
    have c3b0 : decide (0 ≤ x7_1) = true := decide_eq_true c3
    clear c3
    replace H := Option.bind_eq_some_iff.mp H
    obtain ⟨t197,A40,H⟩ := H
    try dsimp only at H
    have A4 := am A40
    clear A40
    replace H := Option.bind_eq_some_iff.mp H
    obtain ⟨t198,A50,H⟩ := H
    try dsimp only at H
    have A5 := am A50
    clear A50
    by_cases c6 : t197 < (wrap64 (t198 + x7_1))
    ·rw [if_pos c6] at H
     have c6b0 : decide (t197 < (wrap64 (t198 + x7_1))) = true := decide_eq_true c6
     clear c6
     have H' := am H
     clear H
     obtain ⟨Ao7,co7,eo7⟩ := Kd.zQF HO_0.out
     subst eo7
     go_wp2_with (first | ((with_reducible refine zQe (f := 27) rfl ?_);refine zQr (some 14) rfl rfl Tryz.func27 (by kernel_rfl) rfl #[.slice Ao7 x0_1.length co7] rfl pM ?_;(with_reducible refine (b_len.calls _ _ x0_1 t197 _ ?side1 ?side2 A4.out).mono ?_);(case side1 => repeat (first | exact (Kd.zQg HO_0.out).2.2 | (with_reducible refine Kd.zQj ?_ _) | (with_reducible refine Kd.zQi ?_ _) | (with_reducible refine Kd.zQv ?_)));(case side2 => exact (Kd.zQg HO_0.out).2.1);rintro e w' ⟨rfl,⟨nd,rfl⟩⟩;refine ⟨_,rfl,?_⟩) | ((with_reducible refine zQe (f := 27) rfl ?_);refine zQr (some 16) rfl rfl Tryz.func27 (by kernel_rfl) rfl #[.slice A1 l1.length c1] rfl pM ?_;(with_reducible refine (b_len.calls _ _ l1 t198 _ ?side1 ?side2 A5.out).mono ?_);(case side1 => repeat (first | exact (Kd.zQO HR1.out pB) | (with_reducible refine Kd.zQj ?_ _) | (with_reducible refine Kd.zQi ?_ _) | (with_reducible refine Kd.zQv ?_)));(case side2 => exact HC1.out);rintro e w' ⟨rfl,⟨nd,rfl⟩⟩;refine ⟨_,rfl,?_⟩))
     go_roundg k1
     case measure => have := HK1.out;omega
     case rel => exact ⟨(x0_1),(x6_1),(wrap64 (x7_1 - 1)),(by first | rfl | (simp;done) | (simp [*];done)),(by first | rfl | (simp;done) | (simp [*];done)),H',⟨by have := HK1.out;omega⟩,⟨by (with_reducible repeat (first | apply Kd.zQn | apply Kd.zQm | apply Kd.zQo));exact HO_0.out⟩,⟨pB⟩⟩
    ·rw [if_neg c6] at H
     have c6b0 : decide (t197 < (wrap64 (t198 + x7_1))) = false := decide_eq_false c6
     clear c6
     replace H := Option.bind_eq_some_iff.mp H
     obtain ⟨t199,A80,H⟩ := H
     try dsimp only at H
     have A8 := am A80
     clear A80
     replace H := Option.bind_eq_some_iff.mp H
     obtain ⟨t202,A90,H⟩ := H
     try dsimp only at H
     have A9 := am A90
     clear A90
     by_cases c10 : t202 ≥ 0
     ·rw [if_pos c10] at H
      have c10b0 : decide (0 ≤ t202) = true := decide_eq_true c10
      clear c10
      replace H := Option.bind_eq_some_iff.mp H
      obtain ⟨t203,A110,H⟩ := H
      try dsimp only at H
      have A11 := am A110
      clear A110
      by_cases c12 : 0 ≤ x7_1
      ·rw [if_pos c12] at H
       have c12b0 := eq_true c12
       have c12b1 : decide (0 ≤ x7_1) = true := decide_eq_true c12
       clear c12
       obtain ⟨ji13,hji13⟩ : ∃ j_ : Int,(shl .u64 1 x7_1) = j_ := ⟨_,rfl⟩
       replace H : (b_by.l0 k1 t203 l1 (Go.bits .or .u64 x6_1 (ji13)) (wrap64 (x7_1 - 1))) = some (r1,r2) := by first | (rw [hji13] at H;exact H) | (simp only [hji13] at H ⊢;exact H)
       (try rw [hji13] at A4)
       (try rw [hji13] at A5)
       (try rw [hji13] at A8)
       (try rw [hji13] at A9)
       (try rw [hji13] at A11)
       have hji13_ : (IntKind.u64.wrap (1 * 2 ^ min x7_1.toNat 64)) = ji13 := hji13
       have hji13z : x7_1 ≤ 64 → (IntKind.u64.wrap (1 * 2 ^ x7_1.toNat)) = ji13 := zXM hji13
       have hji13u : (IntKind.u64.wrap (2 ^ min x7_1.toNat 64)) = ji13 := by have h_ := hji13_;rw [Int.one_mul] at h_;exact h_
       have hji13v : x7_1 ≤ 64 → (IntKind.u64.wrap (2 ^ x7_1.toNat)) = ji13 := fun hle_ => by have h_ := hji13z hle_;rw [Int.one_mul] at h_;exact h_
       have H' := am H
       clear H
       obtain ⟨Ao14,co14,eo14⟩ := Kd.zQF HO_0.out
       subst eo14
       go_wp2_with (first | ((with_reducible refine zQe (f := 27) rfl ?_);refine zQr (some 14) rfl rfl Tryz.func27 (by kernel_rfl) rfl #[.slice Ao14 x0_1.length co14] rfl pM ?_;(with_reducible refine (b_len.calls _ _ x0_1 t197 _ ?side1 ?side2 A4.out).mono ?_);(case side1 => repeat (first | exact (Kd.zQg HO_0.out).2.2 | (with_reducible refine Kd.zQj ?_ _) | (with_reducible refine Kd.zQi ?_ _) | (with_reducible refine Kd.zQv ?_)));(case side2 => exact (Kd.zQg HO_0.out).2.1);rintro e w' ⟨rfl,⟨nd,rfl⟩⟩;refine ⟨_,rfl,?_⟩) | ((with_reducible refine zQe (f := 27) rfl ?_);refine zQr (some 16) rfl rfl Tryz.func27 (by kernel_rfl) rfl #[.slice A1 l1.length c1] rfl pM ?_;(with_reducible refine (b_len.calls _ _ l1 t198 _ ?side1 ?side2 A5.out).mono ?_);(case side1 => repeat (first | exact (Kd.zQO HR1.out pB) | (with_reducible refine Kd.zQj ?_ _) | (with_reducible refine Kd.zQi ?_ _) | (with_reducible refine Kd.zQv ?_)));(case side2 => exact HC1.out);rintro e w' ⟨rfl,⟨nd,rfl⟩⟩;refine ⟨_,rfl,?_⟩) | ((with_reducible refine zQe (f := 28) rfl ?_);refine zQr (some 22) rfl rfl Tryz.func28 (by kernel_rfl) rfl #[.slice A1 l1.length c1,.int .i64 x7_1] rfl pM ?_;(with_reducible refine (b_up.calls k1 _ _ l1 x7_1 t199 _ ?side1 ?side2 A8.out).mono ?_);(case side1 => repeat (first | exact (Kd.zQO HR1.out pB) | (with_reducible refine Kd.zQj ?_ _) | (with_reducible refine Kd.zQi ?_ _) | (with_reducible refine Kd.zQv ?_)));(case side2 => exact HC1.out);rintro e w15 ⟨v200,rfl,ho0,hb⟩;refine ⟨_,rfl,?_⟩;replace HO_0 := am (Kd.zQG (pV HO_0.out) (Kd.zQs ho0) hb);have HO201 := am (Kd.zQy (Kd.zYm (M := fun k_ => (w.heap.size ≤ k_)) ho0 (zQc pB) (fun k_ h_ => h_)) (zQc pB));replace HB := am (zQf pB hb);(try clear hb);(try clear ho0);obtain ⟨Ao16,co16,eo16⟩ := Kd.zQB HO201.out;subst eo16) | ((with_reducible refine zQe (f := 45) rfl ?_);refine zQr (some 25) rfl rfl Tryz.func45 (by kernel_rfl) rfl #[.slice Ao14 x0_1.length co14,.slice Ao16 t199.length co16] rfl pM ?_;(with_reducible refine (b_cmp.calls k1 _ _ x0_1 _ _ t199 t202 _ ?side1 ?side2 ?side3 ?side4 A9.out).mono ?_);(case side1 => repeat (first | exact (Kd.zQg HO_0.out).2.2 | (with_reducible refine Kd.zQj ?_ _) | (with_reducible refine Kd.zQi ?_ _) | (with_reducible refine Kd.zQv ?_)));(case side2 => exact (Kd.zQg HO_0.out).2.1);(case side3 => repeat (first | exact (Kd.zQh HO201.out).2.2 | (with_reducible refine Kd.zQj ?_ _) | (with_reducible refine Kd.zQi ?_ _) | (with_reducible refine Kd.zQv ?_)));(case side4 => exact (Kd.zQh HO201.out).2.1);rintro e w' ⟨rfl,⟨nd,rfl⟩⟩;refine ⟨_,rfl,?_⟩) | ((with_reducible refine zQe (f := 46) rfl ?_);refine zQr (some 29) rfl rfl Tryz.func46 (by kernel_rfl) rfl #[.slice Ao14 x0_1.length co14,.slice Ao16 t199.length co16] rfl pM ?_;(with_reducible refine (b_minus.calls k1 _ _ x0_1 _ _ t199 t203 _ ?side1 ?side2 ?side3 ?side4 A11.out).mono ?_);(case side1 => repeat (first | exact (Kd.zQg HO_0.out).2.2 | (with_reducible refine Kd.zQj ?_ _) | (with_reducible refine Kd.zQi ?_ _) | (with_reducible refine Kd.zQv ?_)));(case side2 => exact (Kd.zQg HO_0.out).2.1);(case side3 => repeat (first | exact (Kd.zQh HO201.out).2.2 | (with_reducible refine Kd.zQj ?_ _) | (with_reducible refine Kd.zQi ?_ _) | (with_reducible refine Kd.zQv ?_)));(case side4 => exact (Kd.zQh HO201.out).2.1);rintro e w17 ⟨v204,rfl,ho0,hb⟩;refine ⟨_,rfl,?_⟩;replace HO_0 := am (Kd.zQl (pV HO_0.out) hb);have HO205 := am (Kd.zQQ (Kd.zQk (ok' := fun k_ => (P0_ k_ ∨ w.heap.size ≤ k_) ∧ some k_ ≠ (.slice Ao16 t199.length co16 : Value).ownBlock) ho0 (fun k_ hk_ => ⟨(.inr (Nat.le_trans (zQc pB) hk_)),(Kd.fresh' (Kd.R_lt (pR HO201.out)) k_ hk_)⟩)) (zQc pB));replace HO201 := am (Kd.zQH (pR HO201.out) hb);replace HB := am (zQf pB hb);(try clear hb);(try clear ho0)))
       go_roundg k1
       case measure => have := HK1.out;omega
       case rel => exact ⟨(t203),(Go.bits .or .u64 x6_1 (ji13)),(wrap64 (x7_1 - 1)),(by first | rfl | (simp;done) | (simp only [← hji13] <;> (first | rfl | simp)) | (simp [*];done)),(by first | rfl | (simp;done) | (simp [*];done)),H',⟨by have := HK1.out;omega⟩,⟨by (with_reducible repeat (first | apply Kd.zQn | apply Kd.zQm | apply Kd.zQo));exact Kd.zQk HO205.out (fun _ hk => hk.1)⟩,⟨pB⟩⟩
      ·rw [if_neg c12] at H
       exact absurd H (by simp)
     ·rw [if_neg c10] at H
      have c10b0 : decide (0 ≤ t202) = false := decide_eq_false c10
      clear c10
      have H' := am H
      clear H
      obtain ⟨Ao18,co18,eo18⟩ := Kd.zQF HO_0.out
      subst eo18
      go_wp2_with (first | ((with_reducible refine zQe (f := 27) rfl ?_);refine zQr (some 14) rfl rfl Tryz.func27 (by kernel_rfl) rfl #[.slice Ao18 x0_1.length co18] rfl pM ?_;(with_reducible refine (b_len.calls _ _ x0_1 t197 _ ?side1 ?side2 A4.out).mono ?_);(case side1 => repeat (first | exact (Kd.zQg HO_0.out).2.2 | (with_reducible refine Kd.zQj ?_ _) | (with_reducible refine Kd.zQi ?_ _) | (with_reducible refine Kd.zQv ?_)));(case side2 => exact (Kd.zQg HO_0.out).2.1);rintro e w' ⟨rfl,⟨nd,rfl⟩⟩;refine ⟨_,rfl,?_⟩) | ((with_reducible refine zQe (f := 27) rfl ?_);refine zQr (some 16) rfl rfl Tryz.func27 (by kernel_rfl) rfl #[.slice A1 l1.length c1] rfl pM ?_;(with_reducible refine (b_len.calls _ _ l1 t198 _ ?side1 ?side2 A5.out).mono ?_);(case side1 => repeat (first | exact (Kd.zQO HR1.out pB) | (with_reducible refine Kd.zQj ?_ _) | (with_reducible refine Kd.zQi ?_ _) | (with_reducible refine Kd.zQv ?_)));(case side2 => exact HC1.out);rintro e w' ⟨rfl,⟨nd,rfl⟩⟩;refine ⟨_,rfl,?_⟩) | ((with_reducible refine zQe (f := 28) rfl ?_);refine zQr (some 22) rfl rfl Tryz.func28 (by kernel_rfl) rfl #[.slice A1 l1.length c1,.int .i64 x7_1] rfl pM ?_;(with_reducible refine (b_up.calls k1 _ _ l1 x7_1 t199 _ ?side1 ?side2 A8.out).mono ?_);(case side1 => repeat (first | exact (Kd.zQO HR1.out pB) | (with_reducible refine Kd.zQj ?_ _) | (with_reducible refine Kd.zQi ?_ _) | (with_reducible refine Kd.zQv ?_)));(case side2 => exact HC1.out);rintro e w19 ⟨v200,rfl,ho0,hb⟩;refine ⟨_,rfl,?_⟩;replace HO_0 := am (Kd.zQG (pV HO_0.out) (Kd.zQs ho0) hb);have HO201 := am (Kd.zQy (Kd.zYm (M := fun k_ => (w.heap.size ≤ k_)) ho0 (zQc pB) (fun k_ h_ => h_)) (zQc pB));replace HB := am (zQf pB hb);(try clear hb);(try clear ho0);obtain ⟨Ao20,co20,eo20⟩ := Kd.zQB HO201.out;subst eo20) | ((with_reducible refine zQe (f := 45) rfl ?_);refine zQr (some 25) rfl rfl Tryz.func45 (by kernel_rfl) rfl #[.slice Ao18 x0_1.length co18,.slice Ao20 t199.length co20] rfl pM ?_;(with_reducible refine (b_cmp.calls k1 _ _ x0_1 _ _ t199 t202 _ ?side1 ?side2 ?side3 ?side4 A9.out).mono ?_);(case side1 => repeat (first | exact (Kd.zQg HO_0.out).2.2 | (with_reducible refine Kd.zQj ?_ _) | (with_reducible refine Kd.zQi ?_ _) | (with_reducible refine Kd.zQv ?_)));(case side2 => exact (Kd.zQg HO_0.out).2.1);(case side3 => repeat (first | exact (Kd.zQh HO201.out).2.2 | (with_reducible refine Kd.zQj ?_ _) | (with_reducible refine Kd.zQi ?_ _) | (with_reducible refine Kd.zQv ?_)));(case side4 => exact (Kd.zQh HO201.out).2.1);rintro e w' ⟨rfl,⟨nd,rfl⟩⟩;refine ⟨_,rfl,?_⟩))
      go_roundg k1
      case measure => have := HK1.out;omega
      case rel => exact ⟨(x0_1),(x6_1),(wrap64 (x7_1 - 1)),(by first | rfl | (simp;done) | (simp [*];done)),(by first | rfl | (simp;done) | (simp [*];done)),H',⟨by have := HK1.out;omega⟩,⟨by (with_reducible repeat (first | apply Kd.zQn | apply Kd.zQm | apply Kd.zQo));exact Kd.zQk HO_0.out (fun _ hk => hk.1)⟩,⟨pB⟩⟩
   ·rw [if_neg c3] at H
    have c3b0 : decide (0 ≤ x7_1) = false := decide_eq_false c3
    clear c3
    simp only [Option.some.injEq,Prod.mk.injEq] at H
    obtain ⟨rfl,rfl⟩ := H
    obtain ⟨Ao21,co21,eo21⟩ := Kd.zQF HO_0.out
    subst eo21
    go_wp2
    go_ret2
    exact ⟨pE,pB⟩
end Go.Proofs.YtflcanpajgpghaaGreatDoor.Pr
end
section
namespace Go.Proofs.YtflcanpajgpghaaGreatDoor.Pr
open Go.RowKit Go.Proofs.YtflcanpajgpghaaGreatDoorW.PrintWords Go.Proofs.YtflcanpajgpghaaGreatDoorW.PrintLast Go.Proofs.YtflcanpajgpghaaGreatDoorW.PrintMore
attribute [local go_sem] zXm zXk zXy zXx zXa zQZ zXl zXj
mutual
def dec_nearest.l0 : Nat → List Int → Int → Int → ByteArray → Int → Option (Int)
 | 0,_,_,_,_,_ => none
 | k + 1,x3,x11,x12,x207000,x207001 => if x12 < x11 then (if 0 ≤ x12 then (if x12 < (x207000.size : Int) then ((b_times.f k x3 10 (((bt x207000 x12) - 48) % 256)).bind fun t207 => (dec_nearest.l0 k t207 x11 (wrap64 (x12 + 1)) x207000 x207001)) else (none)) else (none)) else (if (x3.length : Int) = 0 then (dec_nearest.j1 k x3 true x207000 x207001) else (dec_nearest.j1 k x3 (decide (x207001 < (-1000))) x207000 x207001))
def dec_nearest.j1 : Nat → List Int → Bool → ByteArray → Int → Option (Int)
 | 0,_,_,_,_ => none
 | k + 1,x3,x24,x207000,x207001 => if x24 = true then (some 0) else (if x207001 > 400 then ((flo_Make.f k false 9999 1 false).bind fun t210 => (some t210)) else ((some (([1] : List Int) : List Int)).bind fun y211 => (if x207001 ≥ 0 then ((b_tens.f k x3 x207001).bind fun t214 => (dec_nearest.j2 k t214 y211)) else ((b_tens.f k y211 (wrap64 (-x207001))).bind fun t217 => (dec_nearest.j2 k x3 t217)))))
def dec_nearest.j2 : Nat → List Int → List Int → Option (Int)
 | 0,_,_ => none
 | k + 1,x3,x5 => (b_len.f x3).bind fun t220 => ((b_len.f x5).bind fun t221 => (if (wrap64 (63 - (wrap64 (t220 - t221)))) ≥ 0 then ((b_up.f k x3 (wrap64 (63 - (wrap64 (t220 - t221))))).bind fun t222 => (dec_nearest.j3 k t222 x5 (wrap64 (63 - (wrap64 (t220 - t221)))))) else ((b_up.f k x5 (wrap64 (-(wrap64 (63 - (wrap64 (t220 - t221))))))).bind fun t225 => (dec_nearest.j3 k x3 t225 (wrap64 (63 - (wrap64 (t220 - t221))))))))
def dec_nearest.j3 : Nat → List Int → List Int → Int → Option (Int)
 | 0,_,_,_ => none
 | k + 1,x3,x5,x6 => (b_by.f k x3 x5).bind fun bt228 => (if bt228.2 = true then ((flo_Make.f k false (wrap64 (-x6)) (Go.bits .or .u64 bt228.1 1) false).bind fun t230 => (some t230)) else ((flo_Make.f k false (wrap64 (-x6)) bt228.1 false).bind fun t231 => (some t231)))
end
def dec_nearest.f (k : Nat) (a0_0 : ByteArray) (a0_1 : Int) : Option (Int) := dec_nearest.l0 k ([] : List Int) (a0_0.size : Int) 0 a0_0 a0_1
theorem dec_nearest.mono_l : ∀ k,(∀ y0 y1 y2 y3 y4,LeO (dec_nearest.l0 k y0 y1 y2 y3 y4) (dec_nearest.l0 (k + 1) y0 y1 y2 y3 y4)) ∧ (∀ y0 y1 y2 y3,LeO (dec_nearest.j1 k y0 y1 y2 y3) (dec_nearest.j1 (k + 1) y0 y1 y2 y3)) ∧ (∀ y0 y1,LeO (dec_nearest.j2 k y0 y1) (dec_nearest.j2 (k + 1) y0 y1)) ∧ (∀ y0 y1 y2,LeO (dec_nearest.j3 k y0 y1 y2) (dec_nearest.j3 (k + 1) y0 y1 y2))
 | 0 => ⟨fun _ _ _ _ _ r h => by simp [dec_nearest.l0] at h,fun _ _ _ _ r h => by simp [dec_nearest.j1] at h,fun _ _ r h => by simp [dec_nearest.j2] at h,fun _ _ _ r h => by simp [dec_nearest.j3] at h⟩
 | k + 1 => by
  obtain ⟨ih0,ih1,ih2,ih3⟩ := dec_nearest.mono_l k
  refine ⟨?_,?_,?_,?_⟩
  all_goals intros
  all_goals first | unfold dec_nearest.l0 | unfold dec_nearest.j1 | unfold dec_nearest.j2 | unfold dec_nearest.j3
  all_goals repeat' first
   | (with_reducible exact ih0 _ _ _ _ _)
   | (with_reducible exact ih1 _ _ _ _)
   | (with_reducible exact ih2 _ _)
   | (with_reducible exact ih3 _ _ _)
   | (with_reducible exact b_by.mono _ _ _)
   | (with_reducible exact b_tens.mono _ _ _)
   | (with_reducible exact b_times.mono _ _ _ _)
   | (with_reducible exact b_up.mono _ _ _)
   | (with_reducible exact flo_Make.mono _ _ _ _ _)
   | (with_reducible exact LeO.refl _)
   | (with_reducible exact LeO.none _)
   | (with_reducible refine LeO.ite ?_ ?_)
   | (with_reducible refine LeO.bind ?_ (fun _ => ?_))
   | exact ih0 _ _ _ _ _
   | exact ih1 _ _ _ _
   | exact ih2 _ _
   | exact ih3 _ _ _
   | exact b_by.mono _ _ _
   | exact b_tens.mono _ _ _
   | exact b_times.mono _ _ _ _
   | exact b_up.mono _ _ _
   | exact flo_Make.mono _ _ _ _ _
   | exact LeO.none _
   | refine LeO.ite ?_ ?_
   | refine LeO.bind ?_ (fun _ => ?_)
theorem dec_nearest.mono : ∀ a0 a1 k,LeO (dec_nearest.f k a0 a1) (dec_nearest.f (k + 1) a0 a1) := by
 intro a0 a1 k
 obtain ⟨ih0,ih1,ih2,ih3⟩ := dec_nearest.mono_l k
 unfold dec_nearest.f
 repeat' first
   | (with_reducible exact ih0 _ _ _ _ _)
   | (with_reducible exact ih1 _ _ _ _)
   | (with_reducible exact ih2 _ _)
   | (with_reducible exact ih3 _ _ _)
   | (with_reducible exact b_by.mono _ _ _)
   | (with_reducible exact b_tens.mono _ _ _)
   | (with_reducible exact b_times.mono _ _ _ _)
   | (with_reducible exact b_up.mono _ _ _)
   | (with_reducible exact flo_Make.mono _ _ _ _ _)
   | (with_reducible exact LeO.refl _)
   | (with_reducible exact LeO.none _)
   | (with_reducible refine LeO.ite ?_ ?_)
   | (with_reducible refine LeO.bind ?_ (fun _ => ?_))
   | exact ih0 _ _ _ _ _
   | exact ih1 _ _ _ _
   | exact ih2 _ _
   | exact ih3 _ _ _
   | exact b_by.mono _ _ _
   | exact b_tens.mono _ _ _
   | exact b_times.mono _ _ _ _
   | exact b_up.mono _ _ _
   | exact flo_Make.mono _ _ _ _ _
   | exact LeO.none _
   | refine LeO.ite ?_ ?_
   | refine LeO.bind ?_ (fun _ => ?_)
set_option maxHeartbeats 8000000 in
set_option maxRecDepth 100000 in
theorem dec_nearest.calls (k : Nat) (a0_0 : ByteArray) (a0_1 : Int) (r : Int) (w : World) (h : dec_nearest.f k a0_0 a0_1 = some r) :
  Calls Tryz.prog 11 #[.agg #[.string a0_0,.int .i64 a0_1]] w fun e w' => e = .returned (.int .u64 r) ∧ Below w.heap.size w w' := by
 have hu32 := Tryz.underlying32
 have HB := am (Below.refl w.heap.size w)
 have H : (dec_nearest.l0 k ([] : List Int) (a0_0.size : Int) 0 a0_0 a0_1) = some r := h
 clear h
 have H' := am H
 clear H
 go_enter Tryz.func11,Tryz.ntmps11
 go_wp2_with (first | ((with_reducible refine zQJ (N := 1) rfl ?_);refine zXf ?hg (N := 1) ?hd (cs := #[.string a0_0,.int .i64 a0_1]) (t := 32) ?hr ?_;(case hd => rfl);(case hg => rfl);(case hr => first | (go_simp;done) | (go_simp;rfl));intro gb206 hg w2 hbox hb;have BK206 := am (hbox);have GW206 := am ((by rw [hg];exact (zQc pB) : w.heap.size ≤ gb206));have GE206 := am ((by rw [hg];exact (zQc pB) : w.heap.size ≤ gb206));replace HB := am (zQf pB hb);clear hb hbox hg;have q3 := cf2 BK206.out))
 go_loopg [3,12] k (fun kq v3 v12 w' => ∃ (x3_1 : List Int) (x12_1 : Int),v12 = .int .i64 x12_1 ∧ Aside0 (dec_nearest.l0 kq x3_1 (a0_0.size : Int) x12_1 a0_0 a0_1 = some r) ∧ Aside0 (kq ≤ k) ∧ Aside0 (Kd.V (Kd.int .u32) 52 w' w.heap.size (fun k_ => k_ ≠ gb206) v3 x3_1) ∧ Aside0 (w'.heap[gb206]? = some (.cells #[.string a0_0,.int .i64 a0_1] 32 (0,0))) ∧ Aside0 (Below w.heap.size w w'))
 case atStart => exact ⟨(([] : List Int)),(0),(by first | rfl | (simp;done) | (simp [*];done)),H',⟨Nat.le_refl _⟩,⟨pZ⟩,⟨by (with_reducible repeat (first | refine zQa ?_ _ | refine zQd ?_ | refine zQb ?_ _));exact BK206.out⟩,⟨pB⟩⟩
 case round =>
  clear H'
  try clear c1
  try clear p2
  try clear q3
  obtain ⟨x3_1,x12_1,rfl,HA,HK1,HO_3,BK206,HB⟩ := hrel
  cases gk with
  | zero => exact absurd HA.out (by simp [dec_nearest.l0])
  | succ k1 =>
   have H := HA.out
   clear HA
   simp only [dec_nearest.l0] at H
   by_cases c4 : x12_1 < (a0_0.size : Int)
   ·rw [if_pos c4] at H
    have c4b0 : decide (x12_1 < (a0_0.size : Int)) = true := decide_eq_true c4
    clear c4
    by_cases c5 : 0 ≤ x12_1
    ·rw [if_pos c5] at H
     have c5b0 : decide (0 ≤ x12_1) = true := decide_eq_true c5
     clear c5
     by_cases c6 : x12_1 < (a0_0.size : Int)
     ·rw [if_pos c6] at H
      have c6b0 : decide (x12_1 < (a0_0.size : Int)) = true := decide_eq_true c6
      clear c6
      replace H := Option.bind_eq_some_iff.mp H
      obtain ⟨t207,A80,H⟩ := H
      try dsimp only at H
      have A8 := am A80
      clear A80
      have H' := am H
      clear H
      have q9 := cf2 BK206.out
      have p7 : 0 ≤ (x12_1 : Int) := pD
      have q7 : x12_1 < (a0_0.size : Int) := pD
      have hx7 := bt_at a0_0 x12_1
      replace p7 := eq_true p7
      replace q7 := eq_true q7
      obtain ⟨Ao10,co10,eo10⟩ := Kd.zQF HO_3.out
      subst eo10
      go_wp2_with (first | ((with_reducible refine zQe (f := 24) rfl ?_);refine zQr (some 22) rfl rfl Tryz.func24 (by kernel_rfl) rfl #[.slice Ao10 x3_1.length co10,.int .u32 10,.int .u32 (((bt a0_0 x12_1) - 48) % 256)] rfl pM ?_;(with_reducible refine (b_times.calls k1 _ _ x3_1 10 (((bt a0_0 x12_1) - 48) % 256) t207 _ ?side1 ?side2 A8.out).mono ?_);(case side1 => repeat (first | exact (Kd.zQg HO_3.out).2.2 | (with_reducible refine Kd.zQj ?_ _) | (with_reducible refine Kd.zQi ?_ _) | (with_reducible refine Kd.zQv ?_)));(case side2 => exact (Kd.zQg HO_3.out).2.1);rintro e w11 ⟨v208,rfl,ho0,hb⟩;refine ⟨_,rfl,?_⟩;replace HO_3 := am (Kd.zQl (pV HO_3.out) hb);have HO209 := am (Kd.zQQ (Kd.zQk (ok' := fun k_ => k_ ≠ gb206) ho0 (fun k_ hk_ => (Kd.zQV (g := gb206) (o := .cells #[.string a0_0,.int .i64 a0_1] 32 (0,0)) (pK BK206.out) k_ hk_))) (zQc pB));replace BK206 := am (pkb BK206.out hb);replace HB := am (zQf pB hb);(try clear hb);(try clear ho0)))
      go_roundg k1
      case measure => have := HK1.out;omega
      case rel => exact ⟨(t207),(wrap64 (x12_1 + 1)),(by first | rfl | (simp;done) | (simp [*];done)),H',⟨by have := HK1.out;omega⟩,⟨by (with_reducible repeat (first | apply Kd.zQn | apply Kd.zQm | apply Kd.zQo));exact HO209.out⟩,⟨by (with_reducible repeat (first | refine zQa ?_ _ | refine zQd ?_ | refine zQb ?_ _));exact BK206.out⟩,⟨pB⟩⟩
     ·rw [if_neg c6] at H
      exact absurd H (by simp)
    ·rw [if_neg c5] at H
     exact absurd H (by simp)
   ·rw [if_neg c4] at H
    have c4b0 : decide (x12_1 < (a0_0.size : Int)) = false := decide_eq_false c4
    clear c4
    have HC12 := am H
    clear H
    go_upto_region 7 with (fail)
    go_cut [24] (fun v24 wc => ∃ (kq : Nat) (x24_11 : Bool),v24 = .bool x24_11 ∧ Aside0 (dec_nearest.j1 kq x3_1 x24_11 a0_0 a0_1 = some r) ∧ Aside0 (kq ≤ k1) ∧ Aside0 (Kd.V (Kd.int .u32) 52 wc w.heap.size (fun k_ => k_ ≠ gb206) u3 x3_1) ∧ Aside0 (wc.heap[gb206]? = some (.cells #[.string a0_0,.int .i64 a0_1] 32 (0,0))) ∧ Aside0 (Below w.heap.size w wc))
    case first =>
     have H := HC12.out
     clear HC12
     by_cases c13 : (x3_1.length : Int) = 0
     ·rw [if_pos c13] at H
      have c13b0 : ((x3_1.length : Int) == 0) = true := beq_iff_eq.mpr c13
      have c13b1 : ((x3_1.length : Int) != 0) = false := bne_eq_false_iff_eq.mpr c13
      clear c13
      (first | rw [c13b0] | (simp only [i64_w,i32_w];rw [c13b0]) | rw [c13b1] | (simp only [i64_w,i32_w];rw [c13b1]) | skip)
      have H' := am H
      clear H
      obtain ⟨Ao14,co14,eo14⟩ := Kd.zQF HO_3.out
      subst eo14
      go_wp2
      go_meet
      case rel => exact ⟨_,(true),(by first | rfl | (simp;done) | (simp [*];done)),H',⟨by have := HK1.out;first | omega | exact Nat.le_refl _⟩,⟨by (with_reducible repeat (first | apply Kd.zQn | apply Kd.zQm | apply Kd.zQo));exact HO_3.out⟩,⟨by (with_reducible repeat (first | refine zQa ?_ _ | refine zQd ?_ | refine zQb ?_ _));exact BK206.out⟩,⟨pB⟩⟩
     ·rw [if_neg c13] at H
      have c13b0 : ((x3_1.length : Int) == 0) = false := beq_eq_false_iff_ne.mpr c13
      have c13b1 : ((x3_1.length : Int) != 0) = true := bne_iff_ne.mpr c13
      have c13b2 : ¬ (x3_1 = []) := fun h_ => c13 (by rw [h_];rfl)
      (first | rw [c13b0] | (simp only [i64_w,i32_w];rw [c13b0]) | rw [c13b1] | (simp only [i64_w,i32_w];rw [c13b1]) | skip)
      have H' := am H
      clear H
      obtain ⟨Ao15,co15,eo15⟩ := Kd.zQF HO_3.out
      subst eo15
      have q16 := cf2 BK206.out
      go_wp2
      go_meet
      case rel => exact ⟨_,(decide (a0_1 < (-1000))),(by first | rfl | (simp;done) | (simp [*];done)),H',⟨by have := HK1.out;first | omega | exact Nat.le_refl _⟩,⟨by (with_reducible repeat (first | apply Kd.zQn | apply Kd.zQm | apply Kd.zQo));exact HO_3.out⟩,⟨by (with_reducible repeat (first | refine zQa ?_ _ | refine zQd ?_ | refine zQb ?_ _));exact BK206.out⟩,⟨pB⟩⟩
    case rest =>
     clear HC12
     try clear c1
     try clear c2
     try clear p2
     try clear c4
     try clear c4b0
     try clear c5
     try clear c5b0
     try clear c6
     try clear c6b0
     try clear p6
     try clear p7
     try clear q7
     try clear hx7
     try clear c11
     try clear c13
     try clear c13b0
     try clear c13b1
     try clear c13b2
     try clear q16 q3 q9
     try clear p2
     try clear p7
     try clear q7
     obtain ⟨kq,x24_11,rfl,HA,HJ11,HO_3,BK206,HB⟩ := hcut
     cases kq with
     | zero => exact absurd HA.out (by simp [dec_nearest.j1])
     | succ kj11 =>
      have H := HA.out
      clear HA
      simp only [dec_nearest.j1] at H
      by_cases c17 : x24_11 = true
      ·subst c17
       rw [if_pos rfl] at H
       obtain rfl := Option.some.inj H
       go_wp2
       go_ret
       exact ⟨pE,pB⟩
      ·replace c17 := Bool.eq_false_iff.mpr c17
       subst c17
       rw [if_neg (show ¬ (false = true) by decide)] at H
       by_cases c18 : a0_1 > 400
       ·rw [if_pos c18] at H
        have c18b0 : decide (400 < a0_1) = true := decide_eq_true c18
        clear c18
        replace H := Option.bind_eq_some_iff.mp H
        obtain ⟨t210,A190,H⟩ := H
        try dsimp only at H
        have A19 := am A190
        clear A190
        obtain rfl := Option.some.inj H
        have q20 := cf2 BK206.out
        go_wp2_with (first | ((with_reducible refine zQe (f := 25) rfl ?_);refine zQr (some 37) rfl rfl Tryz.func25 (by kernel_rfl) rfl #[.bool false,.int .i64 9999,.int .u64 1,.bool false] rfl pM ?_;(with_reducible refine (flo_Make.calls kj11 false 9999 1 false t210 _ A19.out).mono ?_);rintro e w21 ⟨rfl,hb⟩;refine ⟨_,rfl,?_⟩;replace HO_3 := am (Kd.zQl (pV HO_3.out) hb);replace BK206 := am (pkb BK206.out hb);replace HB := am (zQf pB hb);(try clear hb)))
        go_ret
        exact ⟨pE,pB⟩
       ·rw [if_neg c18] at H
        have c18b0 : decide (400 < a0_1) = false := decide_eq_false c18
        clear c18
        obtain ⟨y211,hy211⟩ : ∃ y_ : List Int,y_ = (([1] : List Int)) := ⟨_,rfl⟩
        replace H : (if a0_1 ≥ 0 then ((b_tens.f kj11 x3_1 a0_1).bind fun t214 => (dec_nearest.j2 kj11 t214 y211)) else ((b_tens.f kj11 y211 (wrap64 (-a0_1))).bind fun t217 => (dec_nearest.j2 kj11 x3_1 t217))) = some r := by first | (rw [hy211];with_reducible exact H) | (have H2_ := (Option.bind_some _ _).symm.trans H;rw [hy211];with_reducible exact H2_) | (have H2_ := (Option.bind_some _ _).symm.trans H;with_reducible exact H2_) | with_reducible exact H | (rw [hy211];exact H) | exact H
        have Ny211 := am hy211
        clear hy211
        have HC22 := am H
        clear H
        have q23 := cf2 BK206.out
        go_upto_if 41 with (first | ((with_reducible refine zQJ (N := 38) rfl ?_);refine Kd.R_lit (Kd.int .u32) _ 52 ?hg (N := 38) ?hd (xs := ([1] : List Int)) (inner := [.int .u32 1]) (ok := fun _ => True) (okp := fun _ => True) ?hr ?hp (fun _ hk => hk) trivial (Below.refl _ _) (Nat.le_refl _) (by simp) ?_;(case hd => rfl);(case hg => rfl);(case hr => first | (go_simp;done) | (go_simp;rfl));(case hp => exact (Reps.one (show Kd.M (Kd.int .u32) _ _ _ 1 [.int .u32 1] from rfl) (Reps.none _ _)));intro v212 w24 ho25 hb hg_ hnew_;clear hg_ hnew_;(first | rw [← Ny211.out] at ho25 | (simp only [Int.reduceToNat] at ho25;rw [← Ny211.out] at ho25));replace HO_3 := am (Kd.zQG (pV HO_3.out) (Kd.zQs ho25) hb);have HO213 := am (Kd.zQy ho25 (zQc pB));replace BK206 := am (pkb BK206.out hb);replace HB := am (zQf pB hb);clear hb ho25;have q26 := cf2 BK206.out))
        (try simp only [Act.put,List.setIfInBounds_toArray,List.set_cons_zero,List.set_cons_succ])
        go_cut [3,5] (fun v3 v5 wc => ∃ (kq : Nat) (x3_21 : List Int) (x5_21 : List Int),Aside0 (dec_nearest.j2 kq x3_21 x5_21 = some r) ∧ Aside0 (kq ≤ kj11) ∧ Aside0 (Kd.V (Kd.int .u32) 52 wc w.heap.size (fun k_ => k_ ≠ gb206) v3 x3_21) ∧ Aside0 (Kd.V (Kd.int .u32) 52 wc w.heap.size (fun k_ => k_ ≠ gb206) v5 x5_21) ∧ Aside0 (wc.heap[gb206]? = some (.cells #[.string a0_0,.int .i64 a0_1] 32 (0,0))) ∧ Aside0 (Below w.heap.size w wc))
        case first =>
         have H := HC22.out
         clear HC22
         by_cases c27 : a0_1 ≥ 0
         ·rw [if_pos c27] at H
          have c27b0 : decide (0 ≤ a0_1) = true := decide_eq_true c27
          clear c27
          (first | rw [c27b0] | (simp only [i64_w,i32_w];rw [c27b0]) | rw [c27b1] | (simp only [i64_w,i32_w];rw [c27b1]) | skip)
          replace H := Option.bind_eq_some_iff.mp H
          obtain ⟨t214,A280,H⟩ := H
          try dsimp only at H
          have A28 := am A280
          clear A280
          have H' := am H
          clear H
          have q29 := cf2 BK206.out
          obtain ⟨Ao30,co30,eo30⟩ := Kd.zQF HO_3.out
          subst eo30
          go_wp2_with (first | ((with_reducible refine zQe (f := 26) rfl ?_);refine zQr (some 45) rfl rfl Tryz.func26 (by kernel_rfl) rfl #[.slice Ao30 x3_1.length co30,.int .i64 a0_1] rfl pM ?_;(with_reducible refine (b_tens.calls kj11 (fun k_ => (k_ ≠ gb206 ∧ some k_ ≠ (v212 : Value).ownBlock)) _ _ x3_1 a0_1 t214 _ ?side1 A28.out).mono ?_);(case side1 => exact HO_3.out);rintro e w31 ⟨v215,rfl,ho0,hb⟩;refine ⟨_,rfl,?_⟩;replace HO_3 := am (Kd.zQl (pV HO_3.out) hb);have HO216 := am (Kd.zQQ (Kd.zQk (ok' := fun k_ => some k_ ≠ (v212 : Value).ownBlock ∧ k_ ≠ gb206) ho0 (fun k_ hk_ => ⟨Or.elim hk_ (fun hs_ => hs_.2) (fun hn_ => (Kd.fresh' (Kd.R_lt (pR HO213.out)) k_ hn_)),Or.elim hk_ (fun hs_ => hs_.1) (fun hn_ => (Kd.zQV (g := gb206) (o := .cells #[.string a0_0,.int .i64 a0_1] 32 (0,0)) (pK BK206.out) k_ hn_))⟩)) (zQc pB));replace HO213 := am (Kd.zQH (pR HO213.out) hb);replace BK206 := am (pkb BK206.out hb);replace HB := am (zQf pB hb);(try clear hb);(try clear ho0)))
          go_meet
          case rel => exact ⟨_,(t214),(y211),H',⟨by have := HK1.out;have := HJ11.out;first | omega | exact Nat.le_refl _⟩,⟨by (with_reducible repeat (first | apply Kd.zQn | apply Kd.zQm | apply Kd.zQo));exact Kd.zQk HO216.out (fun _ hk => hk.2)⟩,⟨Kd.R_V (by (with_reducible repeat (first | apply Kd.zQw | apply Kd.zQu | apply Kd.zQx));exact Kd.zQE (Kd.zQX HO213.out BK206.out (by decide)) (fun _ hk => hk.2))⟩,⟨by (with_reducible repeat (first | refine zQa ?_ _ | refine zQd ?_ | refine zQb ?_ _));exact BK206.out⟩,⟨pB⟩⟩
         ·rw [if_neg c27] at H
          have c27b0 : decide (0 ≤ a0_1) = false := decide_eq_false c27
          clear c27
          (first | rw [c27b0] | (simp only [i64_w,i32_w];rw [c27b0]) | rw [c27b1] | (simp only [i64_w,i32_w];rw [c27b1]) | skip)
          replace H := Option.bind_eq_some_iff.mp H
          obtain ⟨t217,A320,H⟩ := H
          try dsimp only at H
          have A32 := am A320
          clear A320
          have H' := am H
          clear H
          have q33 := cf2 BK206.out
          obtain ⟨Ao34,co34,eo34⟩ := Kd.zQB HO213.out
          subst eo34
          go_wp2_with (first | ((with_reducible refine zQe (f := 26) rfl ?_);refine zQr (some 50) rfl rfl Tryz.func26 (by kernel_rfl) rfl #[.slice Ao34 y211.length co34,.int .i64 (wrap64 (-a0_1))] rfl pM ?_;(with_reducible refine (b_tens.calls kj11 (fun k_ => some k_ = (.slice Ao34 y211.length co34 : Value).ownBlock) _ _ y211 (wrap64 (-a0_1)) t217 _ ?side1 A32.out).mono ?_);(case side1 => exact Kd.R_V (Kd.zXQ rfl (Kd.zQX (HO213.out) BK206.out (by decide))));rintro e w35 ⟨v218,rfl,ho0,hb⟩;refine ⟨_,rfl,?_⟩;replace HO_3 := am (Kd.zQl (pV HO_3.out) hb);have HO219 := am (Kd.zQQ (Kd.zQk (ok' := fun k_ => k_ ≠ gb206) ho0 (fun k_ hk_ => Or.elim hk_ (fun hs_ => ((Kd.zQX (HO213.out) BK206.out (by decide)).1 k_ hs_.symm).2) (fun hn_ => (Kd.zQV (g := gb206) (o := .cells #[.string a0_0,.int .i64 a0_1] 32 (0,0)) (pK BK206.out) k_ hn_)))) (zQc pB));replace HO213 := am (Kd.zQH (pR HO213.out) hb);replace BK206 := am (pkb BK206.out hb);replace HB := am (zQf pB hb);(try clear hb);(try clear ho0)))
          go_meet
          case rel => exact ⟨_,(x3_1),(t217),H',⟨by have := HK1.out;have := HJ11.out;first | omega | exact Nat.le_refl _⟩,⟨by (with_reducible repeat (first | apply Kd.zQn | apply Kd.zQm | apply Kd.zQo));exact Kd.zQk HO_3.out (fun _ hk => hk.1)⟩,⟨by (with_reducible repeat (first | apply Kd.zQn | apply Kd.zQm | apply Kd.zQo));exact HO219.out⟩,⟨by (with_reducible repeat (first | refine zQa ?_ _ | refine zQd ?_ | refine zQb ?_ _));exact BK206.out⟩,⟨pB⟩⟩
        case rest =>
         clear HC22
         try clear c1
         try clear c2
         try clear p2
         try clear c4
         try clear c4b0
         try clear c5
         try clear c5b0
         try clear c6
         try clear c6b0
         try clear p6
         try clear p7
         try clear q7
         try clear hx7
         try clear c11
         try clear c13
         try clear c13b0
         try clear c13b1
         try clear c13b2
         try clear c17
         try clear c18
         try clear c18b0
         try clear c24
         try clear c25
         try clear c26
         try clear c27
         try clear c27b0
         try clear c27b1
         try clear q16 q20 q23 q26 q29 q33 q3 q9
         try clear p2
         try clear p6
         try clear p7
         try clear q7
         obtain ⟨kq,x3_21,x5_21,HA,HJ21,HO_3,HO_5,BK206,HB⟩ := hcut
         cases kq with
         | zero => exact absurd HA.out (by simp [dec_nearest.j2])
         | succ kj21 =>
          have H := HA.out
          clear HA
          simp only [dec_nearest.j2] at H
          replace H := Option.bind_eq_some_iff.mp H
          obtain ⟨t220,A360,H⟩ := H
          try dsimp only at H
          have A36 := am A360
          clear A360
          replace H := Option.bind_eq_some_iff.mp H
          obtain ⟨t221,A370,H⟩ := H
          try dsimp only at H
          have A37 := am A370
          clear A370
          have HC38 := am H
          clear H
          obtain ⟨Ao39,co39,eo39⟩ := Kd.zQF HO_3.out
          subst eo39
          go_upto_if 58 with (first | ((with_reducible refine zQe (f := 27) rfl ?_);refine zQr (some 52) rfl rfl Tryz.func27 (by kernel_rfl) rfl #[.slice Ao39 x3_21.length co39] rfl pM ?_;(with_reducible refine (b_len.calls _ _ x3_21 t220 _ ?side1 ?side2 A36.out).mono ?_);(case side1 => repeat (first | exact (Kd.zQg HO_3.out).2.2 | (with_reducible refine Kd.zQj ?_ _) | (with_reducible refine Kd.zQi ?_ _) | (with_reducible refine Kd.zQv ?_)));(case side2 => exact (Kd.zQg HO_3.out).2.1);rintro e w' ⟨rfl,⟨nd,rfl⟩⟩;refine ⟨_,rfl,?_⟩;obtain ⟨Ao40,co40,eo40⟩ := Kd.zQF HO_5.out;subst eo40) | ((with_reducible refine zQe (f := 27) rfl ?_);refine zQr (some 54) rfl rfl Tryz.func27 (by kernel_rfl) rfl #[.slice Ao40 x5_21.length co40] rfl pM ?_;(with_reducible refine (b_len.calls _ _ x5_21 t221 _ ?side1 ?side2 A37.out).mono ?_);(case side1 => repeat (first | exact (Kd.zQg HO_5.out).2.2 | (with_reducible refine Kd.zQj ?_ _) | (with_reducible refine Kd.zQi ?_ _) | (with_reducible refine Kd.zQv ?_)));(case side2 => exact (Kd.zQg HO_5.out).2.1);rintro e w' ⟨rfl,⟨nd,rfl⟩⟩;refine ⟨_,rfl,?_⟩))
          (try simp only [Act.put,List.setIfInBounds_toArray,List.set_cons_zero,List.set_cons_succ])
          go_cut [3,5] (fun v3 v5 wc => ∃ (kq : Nat) (x3_37 : List Int) (x5_37 : List Int),Aside0 (dec_nearest.j3 kq x3_37 x5_37 (wrap64 (63 - (wrap64 (t220 - t221)))) = some r) ∧ Aside0 (kq ≤ kj21) ∧ Aside0 (Kd.V (Kd.int .u32) 52 wc w.heap.size (fun k_ => k_ ≠ gb206) v3 x3_37) ∧ Aside0 (Kd.V (Kd.int .u32) 52 wc w.heap.size (fun k_ => k_ ≠ gb206) v5 x5_37) ∧ Aside0 (wc.heap[gb206]? = some (.cells #[.string a0_0,.int .i64 a0_1] 32 (0,0))) ∧ Aside0 (Below w.heap.size w wc))
          case first =>
           have H := HC38.out
           clear HC38
           by_cases c41 : (wrap64 (63 - (wrap64 (t220 - t221)))) ≥ 0
           ·rw [if_pos c41] at H
            have c41b0 : decide (0 ≤ (wrap64 (63 - (wrap64 (t220 - t221))))) = true := decide_eq_true c41
            clear c41
            (first | rw [c41b0] | (simp only [i64_w,i32_w];rw [c41b0]) | rw [c41b1] | (simp only [i64_w,i32_w];rw [c41b1]) | skip)
            replace H := Option.bind_eq_some_iff.mp H
            obtain ⟨t222,A420,H⟩ := H
            try dsimp only at H
            have A42 := am A420
            clear A420
            have H' := am H
            clear H
            go_wp2_with (first | ((with_reducible refine zQe (f := 28) rfl ?_);refine zQr (some 61) rfl rfl Tryz.func28 (by kernel_rfl) rfl #[.slice Ao39 x3_21.length co39,.int .i64 (wrap64 (63 - (wrap64 (t220 - t221))))] rfl pM ?_;(with_reducible refine (b_up.calls kj21 _ _ x3_21 (wrap64 (63 - (wrap64 (t220 - t221)))) t222 _ ?side1 ?side2 A42.out).mono ?_);(case side1 => repeat (first | exact (Kd.zQg HO_3.out).2.2 | (with_reducible refine Kd.zQj ?_ _) | (with_reducible refine Kd.zQi ?_ _) | (with_reducible refine Kd.zQv ?_)));(case side2 => exact (Kd.zQg HO_3.out).2.1);rintro e w43 ⟨v223,rfl,ho0,hb⟩;refine ⟨_,rfl,?_⟩;replace HO_3 := am (Kd.zQG (pV HO_3.out) (Kd.zQs ho0) hb);replace HO_5 := am (Kd.zQG (pV HO_5.out) (Kd.zQs ho0) hb);have HO224 := am (Kd.zQy ho0 (zQc pB));replace BK206 := am (pkb BK206.out hb);replace HB := am (zQf pB hb);(try clear hb);(try clear ho0)))
            go_meet
            case rel => exact ⟨_,(t222),(x5_21),H',⟨by have := HK1.out;have := HJ11.out;have := HJ21.out;first | omega | exact Nat.le_refl _⟩,⟨Kd.R_V (by (with_reducible repeat (first | apply Kd.zQw | apply Kd.zQu | apply Kd.zQx));exact Kd.zQE (Kd.zQX HO224.out BK206.out (by decide)) (fun _ hk => hk.2))⟩,⟨by (with_reducible repeat (first | apply Kd.zQn | apply Kd.zQm | apply Kd.zQo));exact Kd.zQk HO_5.out (fun _ hk => hk.1)⟩,⟨by (with_reducible repeat (first | refine zQa ?_ _ | refine zQd ?_ | refine zQb ?_ _));exact BK206.out⟩,⟨pB⟩⟩
           ·rw [if_neg c41] at H
            have c41b0 : decide (0 ≤ (wrap64 (63 - (wrap64 (t220 - t221))))) = false := decide_eq_false c41
            clear c41
            (first | rw [c41b0] | (simp only [i64_w,i32_w];rw [c41b0]) | rw [c41b1] | (simp only [i64_w,i32_w];rw [c41b1]) | skip)
            replace H := Option.bind_eq_some_iff.mp H
            obtain ⟨t225,A440,H⟩ := H
            try dsimp only at H
            have A44 := am A440
            clear A440
            have H' := am H
            clear H
            go_wp2_with (first | ((with_reducible refine zQe (f := 28) rfl ?_);refine zQr (some 65) rfl rfl Tryz.func28 (by kernel_rfl) rfl #[.slice Ao40 x5_21.length co40,.int .i64 (wrap64 (-(wrap64 (63 - (wrap64 (t220 - t221))))))] rfl pM ?_;(with_reducible refine (b_up.calls kj21 _ _ x5_21 (wrap64 (-(wrap64 (63 - (wrap64 (t220 - t221)))))) t225 _ ?side1 ?side2 A44.out).mono ?_);(case side1 => repeat (first | exact (Kd.zQg HO_5.out).2.2 | (with_reducible refine Kd.zQj ?_ _) | (with_reducible refine Kd.zQi ?_ _) | (with_reducible refine Kd.zQv ?_)));(case side2 => exact (Kd.zQg HO_5.out).2.1);rintro e w45 ⟨v226,rfl,ho0,hb⟩;refine ⟨_,rfl,?_⟩;replace HO_3 := am (Kd.zQG (pV HO_3.out) (Kd.zQs ho0) hb);replace HO_5 := am (Kd.zQG (pV HO_5.out) (Kd.zQs ho0) hb);have HO227 := am (Kd.zQy ho0 (zQc pB));replace BK206 := am (pkb BK206.out hb);replace HB := am (zQf pB hb);(try clear hb);(try clear ho0)))
            go_meet
            case rel => exact ⟨_,(x3_21),(t225),H',⟨by have := HK1.out;have := HJ11.out;have := HJ21.out;first | omega | exact Nat.le_refl _⟩,⟨by (with_reducible repeat (first | apply Kd.zQn | apply Kd.zQm | apply Kd.zQo));exact Kd.zQk HO_3.out (fun _ hk => hk.1)⟩,⟨Kd.R_V (by (with_reducible repeat (first | apply Kd.zQw | apply Kd.zQu | apply Kd.zQx));exact Kd.zQE (Kd.zQX HO227.out BK206.out (by decide)) (fun _ hk => hk.2))⟩,⟨by (with_reducible repeat (first | refine zQa ?_ _ | refine zQd ?_ | refine zQb ?_ _));exact BK206.out⟩,⟨pB⟩⟩
          case rest =>
           clear HC38
           try clear c1
           try clear c2
           try clear p2
           try clear c4
           try clear c4b0
           try clear c5
           try clear c5b0
           try clear c6
           try clear c6b0
           try clear p6
           try clear p7
           try clear q7
           try clear hx7
           try clear c11
           try clear c13
           try clear c13b0
           try clear c13b1
           try clear c13b2
           try clear c17
           try clear c18
           try clear c18b0
           try clear c24
           try clear c25
           try clear c26
           try clear c27
           try clear c27b0
           try clear c27b1
           try clear c28
           try clear c41
           try clear c41b0
           try clear c41b1
           try clear q16 q20 q23 q26 q29 q33 q3 q9
           try clear p2
           try clear p6
           try clear p7
           try clear q7
           obtain ⟨kq,x3_37,x5_37,HA,HJ37,HO_3,HO_5,BK206,HB⟩ := hcut
           cases kq with
           | zero => exact absurd HA.out (by simp [dec_nearest.j3])
           | succ kj37 =>
            have H := HA.out
            clear HA
            simp only [dec_nearest.j3] at H
            replace H := Option.bind_eq_some_iff.mp H
            obtain ⟨⟨t228,t229⟩,A460,H⟩ := H
            try dsimp only at H
            have A46 := am A460
            clear A460
            by_cases c47 : t229 = true
            ·subst c47
             rw [if_pos rfl] at H
             replace H := Option.bind_eq_some_iff.mp H
             obtain ⟨t230,A480,H⟩ := H
             try dsimp only at H
             have A48 := am A480
             clear A480
             obtain rfl := Option.some.inj H
             obtain ⟨Ao49,co49,eo49⟩ := Kd.zQF HO_3.out
             subst eo49
             obtain ⟨Ao50,co50,eo50⟩ := Kd.zQF HO_5.out
             subst eo50
             go_wp2_with (first | ((with_reducible refine zQe (f := 29) rfl ?_);refine zQr (some 69) rfl rfl Tryz.func29 (by kernel_rfl) rfl #[.slice Ao49 x3_37.length co49,.slice Ao50 x5_37.length co50] rfl pM ?_;(with_reducible refine (b_by.calls kj37 (fun k_ => k_ ≠ gb206) _ _ x3_37 _ _ x5_37 t228 true _ ?side1 ?side2 ?side3 A46.out).mono ?_);(case side1 => exact HO_3.out);(case side2 => repeat (first | exact (Kd.zQg HO_5.out).2.2 | (with_reducible refine Kd.zQj ?_ _) | (with_reducible refine Kd.zQi ?_ _) | (with_reducible refine Kd.zQv ?_)));(case side3 => exact (Kd.zQg HO_5.out).2.1);rintro e w51 ⟨rfl,hb⟩;refine ⟨_,rfl,?_⟩;replace HO_3 := am (Kd.zQl (pV HO_3.out) hb);replace HO_5 := am (Kd.zQl (pV HO_5.out) hb);replace BK206 := am (pkb BK206.out hb);replace HB := am (zQf pB hb);(try clear hb)) | ((with_reducible refine zQe (f := 25) rfl ?_);refine zQr (some 78) rfl rfl Tryz.func25 (by kernel_rfl) rfl #[.bool false,.int .i64 (wrap64 (-(wrap64 (63 - (wrap64 (t220 - t221)))))),.int .u64 (Go.bits .or .u64 t228 1),.bool false] rfl pM ?_;(with_reducible refine (flo_Make.calls kj37 false (wrap64 (-(wrap64 (63 - (wrap64 (t220 - t221)))))) (Go.bits .or .u64 t228 1) false t230 _ A48.out).mono ?_);rintro e w52 ⟨rfl,hb⟩;refine ⟨_,rfl,?_⟩;replace HO_3 := am (Kd.zQl (pV HO_3.out) hb);replace HO_5 := am (Kd.zQl (pV HO_5.out) hb);replace BK206 := am (pkb BK206.out hb);replace HB := am (zQf pB hb);(try clear hb)))
             go_ret
             exact ⟨pE,pB⟩
            ·replace c47 := Bool.eq_false_iff.mpr c47
             subst c47
             rw [if_neg (show ¬ (false = true) by decide)] at H
             replace H := Option.bind_eq_some_iff.mp H
             obtain ⟨t231,A530,H⟩ := H
             try dsimp only at H
             have A53 := am A530
             clear A530
             obtain rfl := Option.some.inj H
             obtain ⟨Ao54,co54,eo54⟩ := Kd.zQF HO_3.out
             subst eo54
             obtain ⟨Ao55,co55,eo55⟩ := Kd.zQF HO_5.out
             subst eo55
             go_wp2_with (first | ((with_reducible refine zQe (f := 29) rfl ?_);refine zQr (some 69) rfl rfl Tryz.func29 (by kernel_rfl) rfl #[.slice Ao54 x3_37.length co54,.slice Ao55 x5_37.length co55] rfl pM ?_;(with_reducible refine (b_by.calls kj37 (fun k_ => k_ ≠ gb206) _ _ x3_37 _ _ x5_37 t228 false _ ?side1 ?side2 ?side3 A46.out).mono ?_);(case side1 => exact HO_3.out);(case side2 => repeat (first | exact (Kd.zQg HO_5.out).2.2 | (with_reducible refine Kd.zQj ?_ _) | (with_reducible refine Kd.zQi ?_ _) | (with_reducible refine Kd.zQv ?_)));(case side3 => exact (Kd.zQg HO_5.out).2.1);rintro e w56 ⟨rfl,hb⟩;refine ⟨_,rfl,?_⟩;replace HO_3 := am (Kd.zQl (pV HO_3.out) hb);replace HO_5 := am (Kd.zQl (pV HO_5.out) hb);replace BK206 := am (pkb BK206.out hb);replace HB := am (zQf pB hb);(try clear hb)) | ((with_reducible refine zQe (f := 25) rfl ?_);refine zQr (some 78) rfl rfl Tryz.func25 (by kernel_rfl) rfl #[.bool false,.int .i64 (wrap64 (-(wrap64 (63 - (wrap64 (t220 - t221)))))),.int .u64 t228,.bool false] rfl pM ?_;(with_reducible refine (flo_Make.calls kj37 false (wrap64 (-(wrap64 (63 - (wrap64 (t220 - t221)))))) t228 false t231 _ A53.out).mono ?_);rintro e w57 ⟨rfl,hb⟩;refine ⟨_,rfl,?_⟩;replace HO_3 := am (Kd.zQl (pV HO_3.out) hb);replace HO_5 := am (Kd.zQl (pV HO_5.out) hb);replace BK206 := am (pkb BK206.out hb);replace HB := am (zQf pB hb);(try clear hb)))
             go_ret
             exact ⟨pE,pB⟩
def dec_Parse.f (k : Nat) (a0 : ByteArray) : Option (Int × Int) := if (a0.size : Int) > 400 then (some (0,2)) else ((dec_cut.f k a0).bind fun bt232 => (if bt232.2.2 = true then ((dec_nearest.f k bt232.1 bt232.2.1).bind fun t236 => (some (t236,0))) else (some (0,4))))
theorem dec_Parse.mono : ∀ a0 k,LeO (dec_Parse.f k a0) (dec_Parse.f (k + 1) a0) := by
 intro a0 k
 unfold dec_Parse.f
 repeat' first
   | (with_reducible exact dec_cut.mono _ _)
   | (with_reducible exact dec_nearest.mono _ _ _)
   | (with_reducible exact LeO.refl _)
   | (with_reducible exact LeO.none _)
   | (with_reducible refine LeO.ite ?_ ?_)
   | (with_reducible refine LeO.bind ?_ (fun _ => ?_))
   | exact dec_cut.mono _ _
   | exact dec_nearest.mono _ _ _
   | exact LeO.none _
   | refine LeO.ite ?_ ?_
   | refine LeO.bind ?_ (fun _ => ?_)
set_option maxHeartbeats 8000000 in
set_option maxRecDepth 100000 in
theorem dec_Parse.calls (k : Nat) (a0 : ByteArray) (r1 : Int) (r2 : Int) (w : World) (h : dec_Parse.f k a0 = some (r1,r2)) :
  Calls Tryz.prog 5 #[.string a0] w fun e w' => e = .returned (.tuple #[.int .u64 r1,.int .i64 r2]) ∧ Below w.heap.size w w' := by
 have hu32 := Tryz.underlying32
 have HB := am (Below.refl w.heap.size w)
 have H : (if (a0.size : Int) > 400 then (some (0,2)) else ((dec_cut.f k a0).bind fun bt232 => (if bt232.2.2 = true then ((dec_nearest.f k bt232.1 bt232.2.1).bind fun t236 => (some (t236,0))) else (some (0,4))))) = some (r1,r2) := h
 clear h
 by_cases c2 : (a0.size : Int) > 400
 ·rw [if_pos c2] at H
  have c2b0 : decide (400 < (a0.size : Int)) = true := decide_eq_true c2
  have c2b1 : decide (400 < a0.size) = true := decide_eq_true (by omega)
  clear c2
  simp only [Option.some.injEq,Prod.mk.injEq] at H
  obtain ⟨rfl,rfl⟩ := H
  go_enter Tryz.func5,Tryz.ntmps5
  go_wp2
  go_ret2
  exact ⟨pE,pB⟩
 ·rw [if_neg c2] at H
  have c2b0 : decide (400 < (a0.size : Int)) = false := decide_eq_false c2
  have c2b1 : decide (400 < a0.size) = false := decide_eq_false (by omega)
  clear c2
  replace H := Option.bind_eq_some_iff.mp H
  obtain ⟨⟨t232,t233,t234⟩,A30,H⟩ := H
  try dsimp only at H
  have A3 := am A30
  clear A30
  by_cases c4 : t234 = true
  ·subst c4
   rw [if_pos rfl] at H
   replace H := Option.bind_eq_some_iff.mp H
   obtain ⟨t236,A50,H⟩ := H
   try dsimp only at H
   have A5 := am A50
   clear A50
   simp only [Option.some.injEq,Prod.mk.injEq] at H
   obtain ⟨rfl,rfl⟩ := H
   go_enter Tryz.func5,Tryz.ntmps5
   go_wp2_with (first | ((with_reducible refine zQe (f := 10) rfl ?_);refine zQr (some 11) rfl rfl Tryz.func10 (by kernel_rfl) rfl #[.string a0] rfl pM ?_;(with_reducible refine (dec_cut.calls k a0 t232 t233 true _ A3.out).mono ?_);rintro e w6 ⟨rfl,hb⟩;refine ⟨_,rfl,?_⟩;replace HB := am (zQf pB hb);(try clear hb)) | ((with_reducible refine zQJ (N := 4) rfl ?_);refine zXf ?hg (N := 4) ?hd (cs := #[.string (⟨#[]⟩ : ByteArray),.int .i64 0]) (t := 32) ?hr ?_;(case hd => rfl);(case hg => rfl);(case hr => first | (go_simp;done) | (go_simp;rfl));intro gb235 hg w7 hbox hb;have BK235 := am (hbox);have GW235 := am ((by rw [hg];exact (zQc pB) : w.heap.size ≤ gb235));have GE235 := am ((by rw [hg];exact (zQc pB) : w.heap.size ≤ gb235));replace HB := am (zQf pB hb);clear hb hbox hg;have q8 := cf2 BK235.out) | ((with_reducible refine zQe (f := 11) rfl ?_);refine zQr (some 17) rfl rfl Tryz.func11 (by kernel_rfl) rfl #[.agg #[.string t232,.int .i64 t233]] rfl pM ?_;(with_reducible refine (dec_nearest.calls k t232 t233 t236 _ A5.out).mono ?_);rintro e w9 ⟨rfl,hb⟩;refine ⟨_,rfl,?_⟩;replace BK235 := am (zZc (g := gb235) (o := .cells #[.string t232,.int .i64 t233] 32 (0,0)) (by (with_reducible repeat (first | refine zQa ?_ _ | refine zQd ?_ | refine zQb ?_ _));refine zQz (cs := #[.string t232,.int .i64 0]) ?_ 1 _ rfl;(with_reducible repeat (first | refine zQa ?_ _ | refine zQd ?_ | refine zQb ?_ _));refine zQz (cs := #[.string (⟨#[]⟩ : ByteArray),.int .i64 0]) ?_ 0 _ rfl;(with_reducible repeat (first | refine zQa ?_ _ | refine zQd ?_ | refine zQb ?_ _));exact BK235.out) hb);replace HB := am (zQf pB hb);(try clear hb)))
   go_ret2
   exact ⟨pE,pB⟩
  ·replace c4 := Bool.eq_false_iff.mpr c4
   subst c4
   rw [if_neg (show ¬ (false = true) by decide)] at H
   simp only [Option.some.injEq,Prod.mk.injEq] at H
   obtain ⟨rfl,rfl⟩ := H
   go_enter Tryz.func5,Tryz.ntmps5
   go_wp2_with (first | ((with_reducible refine zQe (f := 10) rfl ?_);refine zQr (some 11) rfl rfl Tryz.func10 (by kernel_rfl) rfl #[.string a0] rfl pM ?_;(with_reducible refine (dec_cut.calls k a0 t232 t233 false _ A3.out).mono ?_);rintro e w10 ⟨rfl,hb⟩;refine ⟨_,rfl,?_⟩;replace HB := am (zQf pB hb);(try clear hb)) | ((with_reducible refine zQJ (N := 4) rfl ?_);refine zXf ?hg (N := 4) ?hd (cs := #[.string (⟨#[]⟩ : ByteArray),.int .i64 0]) (t := 32) ?hr ?_;(case hd => rfl);(case hg => rfl);(case hr => first | (go_simp;done) | (go_simp;rfl));intro gb235 hg w11 hbox hb;have BK235 := am (hbox);have GW235 := am ((by rw [hg];exact (zQc pB) : w.heap.size ≤ gb235));have GE235 := am ((by rw [hg];exact (zQc pB) : w.heap.size ≤ gb235));replace HB := am (zQf pB hb);clear hb hbox hg;have q12 := cf2 BK235.out))
   go_ret2
   exact ⟨pE,pB⟩
def r5_digits.l0 : Nat → ByteArray → Int → Option (Int)
 | 0,_,_ => none
 | k + 1,x0,x1 => if x1 < (x0.size : Int) then (if 0 ≤ x1 then (if (bt x0 x1) ≥ 48 then (if (bt x0 x1) ≤ 57 then (r5_digits.l0 k x0 (wrap64 (x1 + 1))) else (some x1)) else (some x1)) else (none)) else (some x1)
def r5_digits.f (k : Nat) (a0 : ByteArray) (a1 : Int) : Option (Int) := r5_digits.l0 k a0 a1
theorem r5_digits.mono_l : ∀ k,(∀ y0 y1,LeO (r5_digits.l0 k y0 y1) (r5_digits.l0 (k + 1) y0 y1))
 | 0 => fun _ _ r h => by simp [r5_digits.l0] at h
 | k + 1 => by
  have ih0 := r5_digits.mono_l k
  ·intro y0 y1
   unfold r5_digits.l0
   repeat' first
   | (with_reducible exact ih0 _ _)
   | (with_reducible exact LeO.refl _)
   | (with_reducible exact LeO.none _)
   | (with_reducible refine LeO.ite ?_ ?_)
   | (with_reducible refine LeO.bind ?_ (fun _ => ?_))
   | exact ih0 _ _
   | exact LeO.none _
   | refine LeO.ite ?_ ?_
   | refine LeO.bind ?_ (fun _ => ?_)
theorem r5_digits.mono : ∀ a0 a1 k,LeO (r5_digits.f k a0 a1) (r5_digits.f (k + 1) a0 a1) := by
 intro a0 a1 k
 have ih0 := r5_digits.mono_l k
 unfold r5_digits.f
 repeat' first
   | (with_reducible exact ih0 _ _)
   | (with_reducible exact LeO.refl _)
   | (with_reducible exact LeO.none _)
   | (with_reducible refine LeO.ite ?_ ?_)
   | (with_reducible refine LeO.bind ?_ (fun _ => ?_))
   | exact ih0 _ _
   | exact LeO.none _
   | refine LeO.ite ?_ ?_
   | refine LeO.bind ?_ (fun _ => ?_)
set_option maxHeartbeats 8000000 in
set_option maxRecDepth 100000 in
theorem r5_digits.calls (k : Nat) (a0 : ByteArray) (a1 : Int) (r : Int) (w : World) (h : r5_digits.f k a0 a1 = some r) :
  Calls Tryz.prog 30 #[.string a0,.int .i64 a1] w fun e w' => e = .returned (.int .i64 r) ∧ Drawn0 w w' := by
 have H : (r5_digits.l0 k a0 a1) = some r := h
 clear h
 have H' := am H
 clear H
 go_enter Tryz.func30,Tryz.ntmps30
 go_wp2
 go_loopg [1] k (fun kq v1 w' => ∃ (x1_1 : Int),v1 = .int .i64 x1_1 ∧ Aside0 (r5_digits.l0 kq a0 x1_1 = some r) ∧ Aside0 (kq ≤ k) ∧ Drawn0 w w')
 case atStart => exact ⟨(a1),(by first | rfl | (simp;done) | (simp [*];done)),H',⟨Nat.le_refl _⟩,by repeat (first | exact Drawn0.refl _ | apply Drawn0.step)⟩
 case round =>
  clear H'
  try clear p2
  obtain ⟨x1_1,rfl,HA,HK1,⟨m1,rfl⟩⟩ := hrel
  cases gk with
  | zero => exact absurd HA.out (by simp [r5_digits.l0])
  | succ k1 =>
   have H := HA.out
   clear HA
   simp only [r5_digits.l0] at H
   by_cases c3 : x1_1 < (a0.size : Int)
   ·rw [if_pos c3] at H
    have c3b0 : decide (x1_1 < (a0.size : Int)) = true := decide_eq_true c3
    clear c3
    by_cases c4 : 0 ≤ x1_1
    ·rw [if_pos c4] at H
     have c4b0 : decide (0 ≤ x1_1) = true := decide_eq_true c4
     clear c4
     by_cases c6 : (bt a0 x1_1) ≥ 48
     ·rw [if_pos c6] at H
      have c6b0 : decide (48 ≤ (bt a0 x1_1)) = true := decide_eq_true c6
      clear c6
      by_cases c8 : (bt a0 x1_1) ≤ 57
      ·rw [if_pos c8] at H
       have c8b0 : decide ((bt a0 x1_1) ≤ 57) = true := decide_eq_true c8
       clear c8
       have H' := am H
       clear H
       have p5 : 0 ≤ (x1_1 : Int) := pD
       have q5 : x1_1 < (a0.size : Int) := pD
       have hx5 := bt_at a0 x1_1
       replace p5 := eq_true p5
       replace q5 := eq_true q5
       have p7 : 0 ≤ (x1_1 : Int) := pD
       have q7 : x1_1 < (a0.size : Int) := pD
       have hx7 := bt_at a0 x1_1
       replace p7 := eq_true p7
       replace q7 := eq_true q7
       go_wp2
       go_roundg k1
       case measure => have := HK1.out;omega
       case rel => exact ⟨(wrap64 (x1_1 + 1)),(by first | rfl | (simp;done) | (simp [*];done)),H',⟨by have := HK1.out;omega⟩,by repeat (first | exact Drawn0.refl _ | apply Drawn0.step)⟩
      ·rw [if_neg c8] at H
       have c8b0 : decide ((bt a0 x1_1) ≤ 57) = false := decide_eq_false c8
       clear c8
       obtain rfl := Option.some.inj H
       have p5 : 0 ≤ (x1_1 : Int) := pD
       have q5 : x1_1 < (a0.size : Int) := pD
       have hx5 := bt_at a0 x1_1
       replace p5 := eq_true p5
       replace q5 := eq_true q5
       have p7 : 0 ≤ (x1_1 : Int) := pD
       have q7 : x1_1 < (a0.size : Int) := pD
       have hx7 := bt_at a0 x1_1
       replace p7 := eq_true p7
       replace q7 := eq_true q7
       go_wp2
       go_ret
       exact ⟨by first | rfl | (simp;done) | (simp [*];done),by repeat (first | exact Drawn0.refl _ | apply Drawn0.step)⟩
     ·rw [if_neg c6] at H
      have c6b0 : decide (48 ≤ (bt a0 x1_1)) = false := decide_eq_false c6
      clear c6
      obtain rfl := Option.some.inj H
      have p5 : 0 ≤ (x1_1 : Int) := pD
      have q5 : x1_1 < (a0.size : Int) := pD
      have hx5 := bt_at a0 x1_1
      replace p5 := eq_true p5
      replace q5 := eq_true q5
      go_wp2
      go_ret
      exact ⟨by first | rfl | (simp;done) | (simp [*];done),by repeat (first | exact Drawn0.refl _ | apply Drawn0.step)⟩
    ·rw [if_neg c4] at H
     exact absurd H (by simp)
   ·rw [if_neg c3] at H
    have c3b0 : decide (x1_1 < (a0.size : Int)) = false := decide_eq_false c3
    clear c3
    obtain rfl := Option.some.inj H
    go_wp2
    go_ret
    exact ⟨by first | rfl | (simp;done) | (simp [*];done),by repeat (first | exact Drawn0.refl _ | apply Drawn0.step)⟩
end Go.Proofs.YtflcanpajgpghaaGreatDoor.Pr
end
section
namespace Go.Proofs.YtflcanpajgpghaaGreatDoor.Pr
open Go.RowKit Go.Proofs.YtflcanpajgpghaaGreatDoorW.PrintWords Go.Proofs.YtflcanpajgpghaaGreatDoorW.PrintLast Go.Proofs.YtflcanpajgpghaaGreatDoorW.PrintMore
attribute [local go_sem] zXm zXk zXy zXx zXa zQZ zXl zXj
mutual
def r5_Read.j0 : Nat → ByteArray → Int → Bool → ByteArray → Int → Option (ByteArray × Int × Bool)
 | 0,_,_,_,_,_ => none
 | k + 1,x0,x5,x29,x239000,x239001 => if x29 = true then ((r5_digits.f k x0 (wrap64 (x5 + 1))).bind fun t240 => (if t240 = (wrap64 (x5 + 1)) then (some (x239000,x239001,false)) else (if 0 ≤ (wrap64 (x5 + 1)) then (if (wrap64 (x5 + 1)) ≤ t240 then (if t240 ≤ (x0.size : Int) then (if x239000.size + (x0.extract ((wrap64 (x5 + 1)) : Int).toNat (t240 : Int).toNat).size ≤ 9223372036854775807 then (r5_Read.j1 k x0 t240 (x239000 ++ (x0.extract ((wrap64 (x5 + 1)) : Int).toNat (t240 : Int).toNat)) (wrap64 ((wrap64 (x5 + 1)) - t240))) else (none)) else (none)) else (none)) else (none)))) else (r5_Read.j1 k x0 x5 x239000 x239001)
def r5_Read.j1 : Nat → ByteArray → Int → ByteArray → Int → Option (ByteArray × Int × Bool)
 | 0,_,_,_,_ => none
 | k + 1,x0,x5,x239000,x239001 => if x5 = (x0.size : Int) then (some (x239000,x239001,true)) else (if 0 ≤ x5 then (if x5 < (x0.size : Int) then (if (bt x0 x5) = 101 then (r5_Read.j2 k x0 x5 false x239000 x239001) else (r5_Read.j2 k x0 x5 ((bt x0 x5) != 69) x239000 x239001)) else (none)) else (none))
def r5_Read.j2 : Nat → ByteArray → Int → Bool → ByteArray → Int → Option (ByteArray × Int × Bool)
 | 0,_,_,_,_,_ => none
 | k + 1,x0,x5,x68,x239000,x239001 => if x68 = true then (some (x239000,x239001,false)) else (if (wrap64 (x5 + 1)) < (x0.size : Int) then (if 0 ≤ (wrap64 (x5 + 1)) then (if (bt x0 (wrap64 (x5 + 1))) = 43 then (r5_Read.j3 k x0 (wrap64 (x5 + 1)) false true x239000 x239001) else (r5_Read.j3 k x0 (wrap64 (x5 + 1)) false ((bt x0 (wrap64 (x5 + 1))) == 45) x239000 x239001)) else (none)) else (r5_Read.j3 k x0 (wrap64 (x5 + 1)) false false x239000 x239001))
def r5_Read.j3 : Nat → ByteArray → Int → Bool → Bool → ByteArray → Int → Option (ByteArray × Int × Bool)
 | 0,_,_,_,_,_,_ => none
 | k + 1,x0,x5,x7,x87,x239000,x239001 => if x87 = true then (if 0 ≤ x5 then (if x5 < (x0.size : Int) then (r5_Read.j4 k x0 (wrap64 (x5 + 1)) ((bt x0 x5) == 45) x239000 x239001) else (none)) else (none)) else (r5_Read.j4 k x0 x5 x7 x239000 x239001)
def r5_Read.j4 : Nat → ByteArray → Int → Bool → ByteArray → Int → Option (ByteArray × Int × Bool)
 | 0,_,_,_,_,_ => none
 | k + 1,x0,x5,x7,x239000,x239001 => if x5 = (x0.size : Int) then (r5_Read.j5 k x0 x5 x7 true x239000 x239001) else ((r5_digits.f k x0 x5).bind fun t241 => (r5_Read.j5 k x0 x5 x7 (t241 != (x0.size : Int)) x239000 x239001))
def r5_Read.j5 : Nat → ByteArray → Int → Bool → Bool → ByteArray → Int → Option (ByteArray × Int × Bool)
 | 0,_,_,_,_,_,_ => none
 | k + 1,x0,x5,x7,x105,x239000,x239001 => if x105 = true then (some (x239000,x239001,false)) else (r5_Read.l0 k x0 x7 0 x5 x239000 x239001)
def r5_Read.l0 : Nat → ByteArray → Bool → Int → Int → ByteArray → Int → Option (ByteArray × Int × Bool)
 | 0,_,_,_,_,_,_ => none
 | k + 1,x0,x7,x8,x9,x239000,x239001 => if x9 < (x0.size : Int) then (if x8 < 9999 then (if 0 ≤ x9 then (r5_Read.l0 k x0 x7 (wrap64 ((wrap64 (10 * x8)) + (((bt x0 x9) - 48) % 256))) (wrap64 (x9 + 1)) x239000 x239001) else (none)) else (r5_Read.l0 k x0 x7 x8 (wrap64 (x9 + 1)) x239000 x239001)) else (if x8 > 9999 then (if x7 = true then (some (x239000,wrap64 (x239001 + (-9999)),true)) else (some (x239000,wrap64 (x239001 + 9999),true))) else (if x7 = true then (some (x239000,wrap64 (x239001 + (wrap64 (-x8))),true)) else (some (x239000,wrap64 (x239001 + x8),true))))
end
def r5_Read.f (k : Nat) (a0 : ByteArray) : Option (ByteArray × Int × Bool) := (r5_digits.f k a0 0).bind fun t239 => (if t239 = 0 then (some ((⟨#[]⟩ : ByteArray),0,false)) else (if 0 ≤ t239 then (if t239 ≤ (a0.size : Int) then (if t239 < (a0.size : Int) then (r5_Read.j0 k a0 t239 ((bt a0 t239) == 46) (a0.extract 0 (t239 : Int).toNat) 0) else (r5_Read.j0 k a0 t239 false (a0.extract 0 (t239 : Int).toNat) 0)) else (none)) else (none)))
def r5_Read.T10 : Bool × List (List Nat × List Nat) := (true,[([],[]),([0],[0]),([],[]),([],[]),([3],[3]),([],[]),([2,4,5],[2,4,5]),([1,6],[1,6]),([],[]),([8],[8]),([],[]),([9,10],[9,10]),([0,1,2,3,4,5,6,7],[]),([12,7,0,1,2,3,4,5,6,7],[7,12]),([0,1,2,3,4,5,6,7,8,9,10,11,12,13],[]),([14,11,13,0,1,2,3,4,5,6,7,8,9,10,11,12,13],[11,14])])
def r5_Read.B10 : List Nat := [0,1,0,0,8,0,60,127,0,256,0,1792,255,4351,16383,32767]
theorem r5_Read.tab10 : rtab .any (opsOf Tryz.f12 10) = r5_Read.T10 := by kernel_rfl
theorem r5_Read.bits10 : zXL r5_Read.T10.2 r5_Read.B10 = true := by kernel_rfl
set_option maxHeartbeats 8000000 in
set_option maxRecDepth 100000 in
theorem r5_Read.calls (k : Nat) (a0 : ByteArray) (r1 : ByteArray) (r2 : Int) (r3 : Bool) (w : World) (h : r5_Read.f k a0 = some (r1,r2,r3)) :
  Calls Tryz.prog 12 #[.string a0] w fun e w' => e = .returned (.tuple #[.agg #[.string r1,.int .i64 r2],.bool r3]) ∧ Below w.heap.size w w' := by
 have hu37 := Tryz.underlying37
 have HB := am (Below.refl w.heap.size w)
 have H : ((r5_digits.f k a0 0).bind fun t239 => (if t239 = 0 then (some ((⟨#[]⟩ : ByteArray),0,false)) else (if 0 ≤ t239 then (if t239 ≤ (a0.size : Int) then (if t239 < (a0.size : Int) then (r5_Read.j0 k a0 t239 ((bt a0 t239) == 46) (a0.extract 0 (t239 : Int).toNat) 0) else (r5_Read.j0 k a0 t239 false (a0.extract 0 (t239 : Int).toNat) 0)) else (none)) else (none)))) = some (r1,r2,r3) := h
 clear h
 replace H := Option.bind_eq_some_iff.mp H
 obtain ⟨t239,A20,H⟩ := H
 try dsimp only at H
 have A2 := am A20
 clear A20
 by_cases c3 : t239 = 0
 ·rw [if_pos c3] at H
  have c3b0 : (t239 == 0) = true := beq_iff_eq.mpr c3
  have c3b1 : (t239 != 0) = false := bne_eq_false_iff_eq.mpr c3
  clear c3
  simp only [Option.some.injEq,Prod.mk.injEq] at H
  obtain ⟨rfl,rfl,rfl⟩ := H
  go_enter Tryz.func12,Tryz.ntmps12
  go_wp2_with (first | ((with_reducible refine zQJ (N := 2) rfl ?_);(try (refine zXK (by rfl) ?_;dsimp only));refine zXf ?hg (N := 2) ?hd (cs := #[.string (⟨#[]⟩ : ByteArray),.int .i64 0]) (t := 37) ?hr ?_;(case hd => rfl);(case hg => rfl);(case hr => first | (go_simp;done) | (go_simp;rfl));intro gb237 hg w4 hbox hb;have BK237 := am (hbox);have GW237 := am ((by rw [hg];exact (zQc pB) : w.heap.size ≤ gb237));have GE237 := am ((by rw [hg];exact (zQc pB) : w.heap.size ≤ gb237));replace HB := am (zQf pB hb);clear hb hbox hg) | ((with_reducible refine zQJ (N := 4) rfl ?_);(try (refine zXK (by rfl) ?_;dsimp only));refine zXf ?hg (N := 4) ?hd (cs := #[.string (⟨#[]⟩ : ByteArray),.int .i64 0]) (t := 37) ?hr ?_;(case hd => rfl);(case hg => rfl);(case hr => first | (go_simp;done) | (go_simp;rfl));intro gb238 hg w5 hbox hb;have BK238 := am (hbox);have GW238 := am ((by rw [hg];exact (zQc pB) : w.heap.size ≤ gb238));have GE238 := am ((by rw [hg];exact (zQc pB) : w.heap.size ≤ gb238));have NB237_238 := am ((by rw [hg];exact Nat.ne_of_lt (pkl BK237.out) : gb237 ≠ gb238));have NB238_237 := am ((by rw [hg];exact Nat.ne_of_gt (pkl BK237.out) : gb238 ≠ gb237));replace BK237 := am (pkb BK237.out hb);replace HB := am (zQf pB hb);clear hb hbox hg;have hnb6 := NB238_237.out;have hnc6 := NB237_238.out;have q7 := cf2 BK238.out) | ((with_reducible refine zQe (f := 30) rfl ?_);refine zQr (some 12) rfl rfl Tryz.func30 (by kernel_rfl) rfl #[.string a0,.int .i64 0] rfl pM ?_;(with_reducible refine (r5_digits.calls k a0 0 t239 _ A2.out).mono ?_);rintro e w' ⟨rfl,⟨nd,rfl⟩⟩;refine ⟨_,rfl,?_⟩;have q8 := cf2 BK237.out))
  refine bodyPost_ret (zXb rfl _ _ gb237 37 #[.string (⟨#[]⟩ : ByteArray),.int .i64 0] (0,0) _ rfl (by (iterate 2 ((with_reducible repeat (first | refine zQa ?_ _ | refine zQd ?_ | refine zQb ?_ _));refine zQz (cs := #[.string (⟨#[]⟩ : ByteArray),.int .i64 0]) ?_ _ _ rfl));(with_reducible repeat (first | refine zQa ?_ _ | refine zQd ?_ | refine zQb ?_ _));refine zQL ?_ NB237_238.out _;(with_reducible repeat (first | refine zQa ?_ _ | refine zQd ?_ | refine zQb ?_ _));refine zQL ?_ NB237_238.out _;(with_reducible repeat (first | refine zQa ?_ _ | refine zQd ?_ | refine zQb ?_ _));exact BK237.out) Tryz.underlying37 rfl (by kernel_rfl)) rfl ?_
  exact ⟨pE,pB⟩
 ·rw [if_neg c3] at H
  have c3b0 : (t239 == 0) = false := beq_eq_false_iff_ne.mpr c3
  have c3b1 : (t239 != 0) = true := bne_iff_ne.mpr c3
  by_cases c9 : 0 ≤ t239
  ·rw [if_pos c9] at H
   have c9b0 := eq_true c9
   have c9b1 : decide (0 ≤ t239) = true := decide_eq_true c9
   clear c9
   by_cases c10 : t239 ≤ (a0.size : Int)
   ·rw [if_pos c10] at H
    have c10b0 := eq_true c10
    have c10b1 : decide (t239 ≤ (a0.size : Int)) = true := decide_eq_true c10
    clear c10
    obtain ⟨ji11,hji11⟩ : ∃ j_ : ByteArray,(a0.extract 0 (t239 : Int).toNat) = j_ := ⟨_,rfl⟩
    replace H : (if t239 < (a0.size : Int) then (r5_Read.j0 k a0 t239 ((bt a0 t239) == 46) ji11 0) else (r5_Read.j0 k a0 t239 false ji11 0)) = some (r1,r2,r3) := by first | (rw [hji11] at H;exact H) | (simp only [hji11] at H ⊢;exact H) | exact H
    (try rw [hji11] at A2)
    have HC12 := am H
    clear H
    go_enter Tryz.func12,Tryz.ntmps12
    go_upto_region 6 with (first | ((with_reducible refine zQJ (N := 2) rfl ?_);(try (refine zXK (by rfl) ?_;dsimp only));refine zXf ?hg (N := 2) ?hd (cs := #[.string (⟨#[]⟩ : ByteArray),.int .i64 0]) (t := 37) ?hr ?_;(case hd => rfl);(case hg => rfl);(case hr => first | (go_simp;done) | (go_simp;rfl));intro gb237 hg w13 hbox hb;have BK237 := am (hbox);have GW237 := am ((by rw [hg];exact (zQc pB) : w.heap.size ≤ gb237));have GE237 := am ((by rw [hg];exact (zQc pB) : w.heap.size ≤ gb237));replace HB := am (zQf pB hb);clear hb hbox hg) | ((with_reducible refine zQJ (N := 4) rfl ?_);(try (refine zXK (by rfl) ?_;dsimp only));refine zXf ?hg (N := 4) ?hd (cs := #[.string (⟨#[]⟩ : ByteArray),.int .i64 0]) (t := 37) ?hr ?_;(case hd => rfl);(case hg => rfl);(case hr => first | (go_simp;done) | (go_simp;rfl));intro gb238 hg w14 hbox hb;have BK238 := am (hbox);have GW238 := am ((by rw [hg];exact (zQc pB) : w.heap.size ≤ gb238));have GE238 := am ((by rw [hg];exact (zQc pB) : w.heap.size ≤ gb238));have NB237_238 := am ((by rw [hg];exact Nat.ne_of_lt (pkl BK237.out) : gb237 ≠ gb238));have NB238_237 := am ((by rw [hg];exact Nat.ne_of_gt (pkl BK237.out) : gb238 ≠ gb237));replace BK237 := am (pkb BK237.out hb);replace HB := am (zQf pB hb);clear hb hbox hg;have hnb15 := NB238_237.out;have hnc15 := NB237_238.out;have q16 := cf2 BK238.out) | ((with_reducible refine zQe (f := 30) rfl ?_);refine zQr (some 12) rfl rfl Tryz.func30 (by kernel_rfl) rfl #[.string a0,.int .i64 0] rfl pM ?_;(with_reducible refine (r5_digits.calls k a0 0 t239 _ A2.out).mono ?_);rintro e w' ⟨rfl,⟨nd,rfl⟩⟩;refine ⟨_,rfl,?_⟩))
    (try simp only [Act.put,List.setIfInBounds_toArray,List.set_cons_zero,List.set_cons_succ])
    go_cut [29] (fun v29 wc => ∃ (kq : Nat) (x29_11 : Bool),v29 = .bool x29_11 ∧ Aside0 (r5_Read.j0 kq a0 t239 x29_11 ji11 0 = some (r1,r2,r3)) ∧ Aside0 (kq ≤ k) ∧ Aside0 (wc.heap[gb237]? = some (.cells #[.string (⟨#[]⟩ : ByteArray),.int .i64 0] 37 (0,0))) ∧ Aside0 (wc.heap[gb238]? = some (.cells #[.string ji11,.int .i64 0] 37 (0,0))) ∧ Aside0 (Below w.heap.size w wc))
    case first =>
     have H := HC12.out
     clear HC12
     by_cases c17 : t239 < (a0.size : Int)
     ·rw [if_pos c17] at H
      have c17b0 : decide (t239 < (a0.size : Int)) = true := decide_eq_true c17
      clear c17
      (first | rw [c17b0] | (simp only [i64_w,i32_w];rw [c17b0]) | rw [c17b1] | (simp only [i64_w,i32_w];rw [c17b1]) | skip)
      have H' := am H
      clear H
      have p18 : 0 ≤ (t239 : Int) := pD
      have q18 : t239 < (a0.size : Int) := pD
      have hx18 := bt_at a0 t239
      replace p18 := eq_true p18
      replace q18 := eq_true q18
      go_wp2
      go_meet
      case rel => exact ⟨_,(((bt a0 t239) == 46)),(by first | rfl | (simp;done) | (simp [*];done)),(by first | exact H' | (rw [hji11];exact H')),⟨by first | omega | exact Nat.le_refl _⟩,⟨by (with_reducible repeat (first | refine zQa ?_ _ | refine zQd ?_ | refine zQb ?_ _));refine zQL ?_ NB237_238.out _;(with_reducible repeat (first | refine zQa ?_ _ | refine zQd ?_ | refine zQb ?_ _));refine zQL ?_ NB237_238.out _;(with_reducible repeat (first | refine zQa ?_ _ | refine zQd ?_ | refine zQb ?_ _));refine zQL ?_ NB237_238.out _;(with_reducible repeat (first | refine zQa ?_ _ | refine zQd ?_ | refine zQb ?_ _));exact BK237.out⟩,⟨by (iterate 3 ((with_reducible repeat (first | refine zQa ?_ _ | refine zQd ?_ | refine zQb ?_ _));refine zQz (cs := #[.string (⟨#[]⟩ : ByteArray),.int .i64 0]) ?_ _ _ rfl));(with_reducible repeat (first | refine zQa ?_ _ | refine zQd ?_ | refine zQb ?_ _));exact BK238.out⟩,⟨pB⟩⟩
     ·rw [if_neg c17] at H
      have c17b0 : decide (t239 < (a0.size : Int)) = false := decide_eq_false c17
      clear c17
      (first | rw [c17b0] | (simp only [i64_w,i32_w];rw [c17b0]) | rw [c17b1] | (simp only [i64_w,i32_w];rw [c17b1]) | skip)
      have H' := am H
      clear H
      go_wp2
      go_meet
      case rel => exact ⟨_,(false),(by first | rfl | (simp;done) | (simp [*];done)),(by first | exact H' | (rw [hji11];exact H')),⟨by first | omega | exact Nat.le_refl _⟩,⟨by (with_reducible repeat (first | refine zQa ?_ _ | refine zQd ?_ | refine zQb ?_ _));refine zQL ?_ NB237_238.out _;(with_reducible repeat (first | refine zQa ?_ _ | refine zQd ?_ | refine zQb ?_ _));refine zQL ?_ NB237_238.out _;(with_reducible repeat (first | refine zQa ?_ _ | refine zQd ?_ | refine zQb ?_ _));refine zQL ?_ NB237_238.out _;(with_reducible repeat (first | refine zQa ?_ _ | refine zQd ?_ | refine zQb ?_ _));exact BK237.out⟩,⟨by (iterate 3 ((with_reducible repeat (first | refine zQa ?_ _ | refine zQd ?_ | refine zQb ?_ _));refine zQz (cs := #[.string (⟨#[]⟩ : ByteArray),.int .i64 0]) ?_ _ _ rfl));(with_reducible repeat (first | refine zQa ?_ _ | refine zQd ?_ | refine zQb ?_ _));exact BK238.out⟩,⟨pB⟩⟩
    case rest =>
     clear HC12
     try clear c1
     try clear p1
     try clear q1
     try clear hx1
     try clear p2
     try clear c3
     try clear c3b0
     try clear c3b1
     try clear c6
     try clear c9
     try clear c9b0
     try clear c9b1
     try clear c10
     try clear c10b0
     try clear c10b1
     try clear c12
     try clear c15
     try clear c17
     try clear c17b0
     try clear c17b1
     try clear p18
     try clear q18
     try clear hx18
     try clear q16 q7 q8
     try clear p18
     try clear q18
     obtain ⟨kq,x29_11,rfl,HA,HJ11,BK237,BK238,HB⟩ := hcut
     cases kq with
     | zero => exact absurd HA.out (by simp [r5_Read.j0])
     | succ kj11 =>
      have H := HA.out
      clear HA
      simp only [r5_Read.j0] at H
      have HC19 := am H
      clear H
      go_upto_if 29 with (fail)
      go_cut [5] (fun v5 wc => ∃ (kq : Nat) (x5_18 : Int) (x238000_18 : ByteArray) (x238001_18 : Int) (x239000_18 : ByteArray) (x239001_18 : Int),v5 = .int .i64 x5_18 ∧ Aside0 (r5_Read.j1 kq a0 x5_18 x239000_18 x239001_18 = some (r1,r2,r3)) ∧ Aside0 (kq ≤ kj11) ∧ Aside0 (wc.heap[gb237]? = some (.cells #[.string x238000_18,.int .i64 x238001_18] 37 (0,0))) ∧ Aside0 (wc.heap[gb238]? = some (.cells #[.string x239000_18,.int .i64 x239001_18] 37 (0,0))) ∧ Aside0 (Below w.heap.size w wc))
      case first =>
       have H := HC19.out
       clear HC19
       by_cases c20 : x29_11 = true
       ·subst c20
        rw [if_pos rfl] at H
        replace H := Option.bind_eq_some_iff.mp H
        obtain ⟨t240,A210,H⟩ := H
        try dsimp only at H
        have A21 := am A210
        clear A210
        by_cases c22 : t240 = (wrap64 (t239 + 1))
        ·rw [if_pos c22] at H
         have c22b0 : (t240 == (wrap64 (t239 + 1))) = true := beq_iff_eq.mpr c22
         have c22b1 : (t240 != (wrap64 (t239 + 1))) = false := bne_eq_false_iff_eq.mpr c22
         clear c22
         (first | rw [c22b0] | (simp only [i64_w,i32_w];rw [c22b0]) | rw [c22b1] | (simp only [i64_w,i32_w];rw [c22b1]) | skip)
         simp only [Option.some.injEq,Prod.mk.injEq] at H
         obtain ⟨rfl,rfl,rfl⟩ := H
         go_wp2_with (first | ((with_reducible refine zQe (f := 30) rfl ?_);refine zQr (some 33) rfl rfl Tryz.func30 (by kernel_rfl) rfl #[.string a0,.int .i64 (wrap64 (t239 + 1))] rfl pM ?_;(with_reducible refine (r5_digits.calls kj11 a0 (wrap64 (t239 + 1)) t240 _ A21.out).mono ?_);rintro e w' ⟨rfl,⟨nd,rfl⟩⟩;refine ⟨_,rfl,?_⟩;(try (rw [zXc wc];generalize hq_ : World.drewN wc _ = wc;have n0_ : Aside0 (wc.heap[gb237]? = some (.cells #[.string (⟨#[]⟩ : ByteArray),.int .i64 0] 37 (0,0))) := ⟨by rw [← hq_];exact (pK BK237.out)⟩;have n1_ : Aside0 (wc.heap[gb238]? = some (.cells #[.string ji11,.int .i64 0] 37 (0,0))) := ⟨by rw [← hq_];exact (pK BK238.out)⟩;have n2_ : Aside0 (Below w.heap.size w wc) := ⟨by rw [← hq_];exact pB⟩;clear BK237 BK238 HB hq_;have BK237 := n0_;have BK238 := n1_;have HB := n2_;clear n0_ n1_ n2_));have hnb23 := NB238_237.out;have hnc23 := NB237_238.out;have q24 := cf2 BK238.out;have q25 := cf2 BK237.out))
         refine bodyPost_ret (zXb rfl _ _ gb237 37 #[.string ji11,.int .i64 0] (0,0) _ rfl (by (with_reducible repeat (first | refine zQa ?_ _ | refine zQd ?_ | refine zQb ?_ _));refine zQz (cs := #[.string ji11,.int .i64 0]) ?_ 1 _ rfl;(with_reducible repeat (first | refine zQa ?_ _ | refine zQd ?_ | refine zQb ?_ _));refine zQz (cs := #[.string (⟨#[]⟩ : ByteArray),.int .i64 0]) ?_ 0 _ rfl;(with_reducible repeat (first | refine zQa ?_ _ | refine zQd ?_ | refine zQb ?_ _));exact BK237.out) Tryz.underlying37 rfl (by kernel_rfl)) rfl ?_
         exact ⟨by first | rfl | (simp [zQq,zQp] <;> rfl) | (simp only [← hji11];first | rfl | (simp [zQq,zQp] <;> rfl)) | (simp [*,zQq,zQp] <;> rfl),pB⟩
        ·rw [if_neg c22] at H
         have c22b0 : (t240 == (wrap64 (t239 + 1))) = false := beq_eq_false_iff_ne.mpr c22
         have c22b1 : (t240 != (wrap64 (t239 + 1))) = true := bne_iff_ne.mpr c22
         (first | rw [c22b0] | (simp only [i64_w,i32_w];rw [c22b0]) | rw [c22b1] | (simp only [i64_w,i32_w];rw [c22b1]) | skip)
         obtain ⟨ji26,hji26⟩ : ∃ j_ : Int,(wrap64 (t239 + 1)) = j_ := ⟨_,rfl⟩
         replace H : (if 0 ≤ (ji26) then (if (ji26) ≤ t240 then (if t240 ≤ (a0.size : Int) then (if ji11.size + (a0.extract ((ji26) : Int).toNat (t240 : Int).toNat).size ≤ 9223372036854775807 then (r5_Read.j1 kj11 a0 t240 (ji11 ++ (a0.extract ((ji26) : Int).toNat (t240 : Int).toNat)) (wrap64 ((ji26) - t240))) else (none)) else (none)) else (none)) else (none)) = some (r1,r2,r3) := by first | (rw [hji26] at H;exact H) | (simp only [hji26] at H ⊢;exact H)
         (try rw [hji26] at c22b0)
         (try rw [hji26] at c22b1)
         (try rw [hji26] at A21)
         have hji26w : (IntKind.i64.wrap (t239 + 1)) = ji26 := (i64_w _).trans hji26
         by_cases c27 : 0 ≤ (ji26)
         ·rw [if_pos c27] at H
          have c27b0 := eq_true c27
          have c27b1 : decide (0 ≤ (ji26)) = true := decide_eq_true c27
          clear c27
          by_cases c28 : (ji26) ≤ t240
          ·rw [if_pos c28] at H
           have c28b0 := eq_true c28
           have c28b1 : decide ((ji26) ≤ t240) = true := decide_eq_true c28
           clear c28
           by_cases c29 : t240 ≤ (a0.size : Int)
           ·rw [if_pos c29] at H
            have c29b0 := eq_true c29
            have c29b1 : decide (t240 ≤ (a0.size : Int)) = true := decide_eq_true c29
            clear c29
            obtain ⟨ji30,hji30⟩ : ∃ j_ : ByteArray,(a0.extract ((ji26) : Int).toNat (t240 : Int).toNat) = j_ := ⟨_,rfl⟩
            replace H : (if ji11.size + (ji30).size ≤ 9223372036854775807 then (r5_Read.j1 kj11 a0 t240 (ji11 ++ (ji30)) (wrap64 ((ji26) - t240))) else (none)) = some (r1,r2,r3) := by first | (rw [hji30] at H;exact H) | (simp only [hji30] at H ⊢;exact H) | exact H
            (try rw [hji30] at A21)
            by_cases c31 : ji11.size + (ji30).size ≤ 9223372036854775807
            ·rw [if_pos c31] at H
             have c31b0 := eq_true c31
             have c31b1 : decide (ji11.size + (ji30).size ≤ 9223372036854775807) = true := decide_eq_true c31
             try have c31b2 : (9223372036854775807 < ji11.size + (ji30).size) = False := eq_false (Nat.not_lt.2 c31)
             have H' := am H
             clear H
             try go_wp2_with (first | ((with_reducible refine zQe (f := 30) rfl ?_);refine zQr (some 33) rfl rfl Tryz.func30 (by kernel_rfl) rfl #[.string a0,.int .i64 ji26] rfl (by (try simp only [List.map_toArray,List.map_cons,List.map_nil]);first | done | (simp only [hji26];rfl) | rfl | (simp only [List.length_drop,List.length_take];rfl)) ?_;(with_reducible refine (r5_digits.calls kj11 a0 ji26 t240 _ A21.out).mono ?_);rintro e w' ⟨rfl,⟨nd,rfl⟩⟩;refine ⟨_,rfl,?_⟩;(try (rw [zXc wc];generalize hq_ : World.drewN wc _ = wc;have n0_ : Aside0 (wc.heap[gb237]? = some (.cells #[.string (⟨#[]⟩ : ByteArray),.int .i64 0] 37 (0,0))) := ⟨by rw [← hq_];exact (pK BK237.out)⟩;have n1_ : Aside0 (wc.heap[gb238]? = some (.cells #[.string ji11,.int .i64 0] 37 (0,0))) := ⟨by rw [← hq_];exact (pK BK238.out)⟩;have n2_ : Aside0 (Below w.heap.size w wc) := ⟨by rw [← hq_];exact pB⟩;clear BK237 BK238 HB hq_;have BK237 := n0_;have BK238 := n1_;have HB := n2_;clear n0_ n1_ n2_))))
             replace BK237 := am (zQd BK237.out)
             replace BK238 := am (zQd BK238.out)
             replace HB := am (zQM HB.out)
             refine zXW (n := 16) (S := fun w' => w'.cell? ⟨gb238,0,none⟩ = some (.string ji11) ∧ w'.cell? ⟨gb238,1,none⟩ = some (.int .i64 0)) (ds := [13,15]) (bm 16 0) (by kernel_rfl) rfl rfl ⟨cz0 BK238.out,cz1 BK238.out⟩ (fun hHeld => ?_);refine zXC r5_Read.tab10 r5_Read.bits10 (fun HT_ HW_ => ?_)
             generalize wc.drew = w32 at BK237 BK238 HB hHeld ⊢
             refine pure_ (i := 0) (N := some 39) (v := ?_) (a' := ?_) (bm 16 1) rfl rfl (zQA HT_.out (by kernel_rfl)) (fun _ _ _ h => h) (Or.inl ⟨by kernel_rfl,?_⟩) ?_ ?_
             rotate_left
             ·intro w'
              go_simp
              with_reducible rfl
             rotate_left
             ·exact pA
             refine pure_ (i := 2) (N := some 41) (v := ?_) (a' := ?_) (bm 16 5) rfl rfl (zQA HT_.out (by kernel_rfl)) (fun _ _ _ h => h) (Or.inl ⟨by kernel_rfl,?_⟩) ?_ ?_
             rotate_left
             ·intro w'
              go_simp
              with_reducible rfl
             rotate_left
             ·exact pA
             refine pure_ (i := 3) (N := some 42) (v := ?_) (a' := ?_) (bm 16 13) rfl rfl (zQA HT_.out (by kernel_rfl)) (fun _ _ _ h => h) (Or.inl ⟨by kernel_rfl,?_⟩) ?_ ?_
             rotate_left
             ·intro w'
              go_simp
              with_reducible rfl
             rotate_left
             ·exact pA
             refine pure_ (i := 4) (N := some 43) (v := ?_) (a' := ?_) (bm 16 29) rfl rfl (zQA HT_.out (by kernel_rfl)) (fun _ _ _ h => h) (Or.inl ⟨by kernel_rfl,?_⟩) ?_ ?_
             rotate_left
             ·intro w'
              go_simp
              with_reducible rfl
             rotate_left
             ·exact pA
             refine pure_ (i := 5) (N := some 44) (v := ?_) (a' := ?_) (bm 16 61) rfl rfl (zQA HT_.out (by kernel_rfl)) (fun _ _ _ h => h) (Or.inl ⟨by kernel_rfl,?_⟩) ?_ ?_
             rotate_left
             ·intro w'
              go_simp
              with_reducible rfl
             rotate_left
             ·exact pA
             refine pure_ (i := 6) (N := some 45) (v := ?_) (a' := ?_) (bm 16 125) rfl rfl (zQA HT_.out (by kernel_rfl)) (fun _ _ _ h => h) (Or.inl ⟨by kernel_rfl,?_⟩) ?_ ?_
             rotate_left
             ·intro w'
              go_simp
              with_reducible rfl
             rotate_left
             ·exact pA
             refine pure_ (i := 8) (N := some 47) (v := ?_) (a' := ?_) (bm 16 381) rfl rfl (zQA HT_.out (by kernel_rfl)) (fun _ _ _ h => h) (Or.inl ⟨by kernel_rfl,?_⟩) ?_ ?_
             rotate_left
             ·intro w'
              go_simp
              with_reducible rfl
             rotate_left
             ·exact pA
             refine pure_ (i := 9) (N := some 48) (v := ?_) (a' := ?_) (bm 16 893) rfl rfl (zQA HT_.out (by kernel_rfl)) (fun _ _ _ h => h) (Or.inl ⟨by kernel_rfl,?_⟩) ?_ ?_
             rotate_left
             ·intro w'
              go_simp
              with_reducible rfl
             rotate_left
             ·exact pA
             refine pure_ (i := 10) (N := some 49) (v := ?_) (a' := ?_) (bm 16 1917) rfl rfl (zQA HT_.out (by kernel_rfl)) (fun _ _ _ h => h) (Or.inl ⟨by kernel_rfl,?_⟩) ?_ ?_
             rotate_left
             ·intro w'
              go_simp
              with_reducible rfl
             rotate_left
             ·exact pA
             refine pure_ (i := 11) (N := some 50) (v := ?_) (a' := ?_) (bm 16 3965) rfl rfl (zQA HT_.out (by kernel_rfl)) (fun _ _ _ h => h) (Or.inl ⟨by kernel_rfl,?_⟩) ?_ ?_
             rotate_left
             ·intro w'
              go_simp
              with_reducible rfl
             rotate_left
             ·exact pA
             refine take_ (i := 1) (N := some 40) (v := ?_) (a' := ?_) (bm 16 3967) rfl rfl (zXo HT_.out HW_.out (by kernel_rfl)) (fun _ _ _ h => h) (Or.inl ⟨by kernel_rfl,?_⟩) hHeld ?_ ?_
             rotate_left
             ·rintro w' ⟨s0,s1⟩
              go_simp
              with_reducible rfl
             rotate_left
             ·exact pA
             refine pure_ (i := 7) (N := some 46) (v := ?_) (a' := ?_) (bm 16 4095) rfl rfl (zQA HT_.out (by kernel_rfl)) (fun _ _ _ h => h) (Or.inl ⟨by kernel_rfl,?_⟩) ?_ ?_
             rotate_left
             ·intro w'
              go_simp
              with_reducible rfl
             rotate_left
             ·exact pA
             refine pure_ (i := 12) (N := some 51) (v := ?_) (a' := ?_) (bm 16 8191) rfl rfl (zQA HT_.out (by kernel_rfl)) (fun _ _ _ h => h) (Or.inl ⟨by kernel_rfl,?_⟩) ?_ ?_
             rotate_left
             ·intro w'
              go_simp
              with_reducible rfl
             rotate_left
             ·exact pA
             refine last_ (i := 13) (N := none) (bm 16 16383) rfl rfl (zQW HT_.out (by kernel_rfl)) (by decide) (fun K hK => ?_)
             have hs33 : w32.cell? ⟨gb238,0,none⟩ = some (.string ji11) := cz0 BK238.out
             have hfs33 := zQK BK238.out 0
             have hns33_0 := NB237_238.out
             have hms33_0 := NB238_237.out
             refine skip_ (w1 := ?_) ?hw rfl ?_ ?_;(case hw => kernel_rfl)
             rotate_left
             ·go_simp
              rfl
             refine hK.out _ _ ?_
             clear hK K
             refine pure_ (i := 14) (N := some 52) (v := ?_) (a' := ?_) (bm 16 32767) rfl rfl (zQA HT_.out (by kernel_rfl)) (fun _ _ _ h => h) (Or.inl ⟨by kernel_rfl,?_⟩) ?_ ?_
             rotate_left
             ·intro w'
              go_simp
              with_reducible rfl
             rotate_left
             ·exact pA
             refine last_ (i := 15) (N := none) (bm 16 65535) rfl rfl (zQW HT_.out (by kernel_rfl)) (by decide) (fun K hK => ?_)
             have hs34 : w32.cell? ⟨gb238,1,none⟩ = some (.int .i64 0) := cz1 BK238.out
             have hfs34 := zQK BK238.out 1
             have hns34_0 := NB237_238.out
             have hms34_0 := NB238_237.out
             refine skip_ (w1 := ?_) ?hw rfl ?_ ?_;(case hw => kernel_rfl)
             rotate_left
             ·go_simp
              rfl
             refine hK.out _ _ ?_
             clear hK K
             refine done_ (zYh HT_.out (by kernel_rfl)) ?_
             try go_wp2
             go_meet
             case rel => exact ⟨_,(t240),((⟨#[]⟩ : ByteArray)),(0),(ji11 ++ (ji30)),(wrap64 ((ji26) - t240)),(by first | rfl | (simp;done) | (simp [*];done)),H',⟨by have := HJ11.out;first | omega | exact Nat.le_refl _⟩,⟨by (with_reducible repeat (first | refine zQa ?_ _ | refine zQd ?_ | refine zQb ?_ _));refine zQL ?_ NB237_238.out _;(with_reducible repeat (first | refine zQa ?_ _ | refine zQd ?_ | refine zQb ?_ _));refine zQL ?_ NB237_238.out _;(with_reducible repeat (first | refine zQa ?_ _ | refine zQd ?_ | refine zQb ?_ _));exact BK237.out⟩,⟨by (with_reducible repeat (first | refine zQa ?_ _ | refine zQd ?_ | refine zQb ?_ _));refine zQz (cs := #[.string (ji11 ++ (ji30)),.int .i64 0]) ?_ 1 _ rfl;(with_reducible repeat (first | refine zQa ?_ _ | refine zQd ?_ | refine zQb ?_ _));refine zQz (cs := #[.string ji11,.int .i64 0]) ?_ 0 _ rfl;(with_reducible repeat (first | refine zQa ?_ _ | refine zQd ?_ | refine zQb ?_ _));exact BK238.out⟩,⟨pB⟩⟩
            ·rw [if_neg c31] at H
             exact absurd H (by simp)
           ·rw [if_neg c29] at H
            exact absurd H (by simp)
          ·rw [if_neg c28] at H
           exact absurd H (by simp)
         ·rw [if_neg c27] at H
          exact absurd H (by simp)
       ·replace c20 := Bool.eq_false_iff.mpr c20
        subst c20
        rw [if_neg (show ¬ (false = true) by decide)] at H
        have H' := am H
        clear H
        go_wp2
        go_meet
        case rel => exact ⟨_,(t239),((⟨#[]⟩ : ByteArray)),(0),(ji11),(0),(by first | rfl | (simp;done) | (simp [*];done)),H',⟨by have := HJ11.out;first | omega | exact Nat.le_refl _⟩,⟨by (with_reducible repeat (first | refine zQa ?_ _ | refine zQd ?_ | refine zQb ?_ _));exact BK237.out⟩,⟨by (with_reducible repeat (first | refine zQa ?_ _ | refine zQd ?_ | refine zQb ?_ _));exact BK238.out⟩,⟨pB⟩⟩
      case rest =>
       clear HC19
       try clear c1
       try clear p1
       try clear q1
       try clear hx1
       try clear c2
       try clear p2
       try clear c3
       try clear c3b0
       try clear c3b1
       try clear c6
       try clear p6
       try clear c9
       try clear c9b0
       try clear c9b1
       try clear c10
       try clear c10b0
       try clear c10b1
       try clear c12
       try clear c15
       try clear c17
       try clear c17b0
       try clear c17b1
       try clear p18
       try clear q18
       try clear hx18
       try clear c20
       try clear c22
       try clear c22b0
       try clear c22b1
       try clear c23
       try clear c27
       try clear c27b0
       try clear c27b1
       try clear c28
       try clear c28b0
       try clear c28b1
       try clear c29
       try clear c29b0
       try clear c29b1
       try clear c30
       try clear c31
       try clear c31b0
       try clear c31b1
       try clear c31b2
       try clear q16 q24 q25 q7 q8
       try clear p1
       try clear p18
       try clear p2
       try clear q1
       try clear q18
       obtain ⟨kq,x5_18,x238000_18,x238001_18,x239000_18,x239001_18,rfl,HA,HJ18,BK237,BK238,HB⟩ := hcut
       cases kq with
       | zero => exact absurd HA.out (by simp [r5_Read.j1])
       | succ kj18 =>
        have H := HA.out
        clear HA
        simp only [r5_Read.j1] at H
        by_cases c35 : x5_18 = (a0.size : Int)
        ·rw [if_pos c35] at H
         have c35b0 : (x5_18 == (a0.size : Int)) = true := beq_iff_eq.mpr c35
         have c35b1 : (x5_18 != (a0.size : Int)) = false := bne_eq_false_iff_eq.mpr c35
         clear c35
         simp only [Option.some.injEq,Prod.mk.injEq] at H
         obtain ⟨rfl,rfl,rfl⟩ := H
         have hnb36 := NB238_237.out
         have hnc36 := NB237_238.out
         have q37 := cf2 BK238.out
         have q38 := cf2 BK237.out
         go_wp2
         refine bodyPost_ret (zXb rfl _ _ gb237 37 #[.string x239000_18,.int .i64 x239001_18] (0,0) _ rfl (by (with_reducible repeat (first | refine zQa ?_ _ | refine zQd ?_ | refine zQb ?_ _));refine zQz (cs := #[.string x239000_18,.int .i64 x238001_18]) ?_ 1 _ rfl;(with_reducible repeat (first | refine zQa ?_ _ | refine zQd ?_ | refine zQb ?_ _));refine zQz (cs := #[.string x238000_18,.int .i64 x238001_18]) ?_ 0 _ rfl;(with_reducible repeat (first | refine zQa ?_ _ | refine zQd ?_ | refine zQb ?_ _));exact BK237.out) Tryz.underlying37 rfl (by kernel_rfl)) rfl ?_
         exact ⟨by first | rfl | (simp [zQq,zQp] <;> rfl) | (simp only [← hji11];first | rfl | (simp [zQq,zQp] <;> rfl)) | (simp [*,zQq,zQp] <;> rfl),pB⟩
        ·rw [if_neg c35] at H
         have c35b0 : (x5_18 == (a0.size : Int)) = false := beq_eq_false_iff_ne.mpr c35
         have c35b1 : (x5_18 != (a0.size : Int)) = true := bne_iff_ne.mpr c35
         have HC39 := am H
         clear H
         go_upto_region 14 with (fail)
         go_cut [68] (fun v68 wc => ∃ (kq : Nat) (x68_38 : Bool),v68 = .bool x68_38 ∧ Aside0 (r5_Read.j2 kq a0 x5_18 x68_38 x239000_18 x239001_18 = some (r1,r2,r3)) ∧ Aside0 (kq ≤ kj18) ∧ Aside0 (wc.heap[gb237]? = some (.cells #[.string x238000_18,.int .i64 x238001_18] 37 (0,0))) ∧ Aside0 (wc.heap[gb238]? = some (.cells #[.string x239000_18,.int .i64 x239001_18] 37 (0,0))) ∧ Aside0 (Below w.heap.size w wc))
         case first =>
          have H := HC39.out
          clear HC39
          by_cases c40 : 0 ≤ x5_18
          ·rw [if_pos c40] at H
           have c40b0 : decide (0 ≤ x5_18) = true := decide_eq_true c40
           clear c40
           (first | rw [c40b0] | (simp only [i64_w,i32_w];rw [c40b0]) | rw [c40b1] | (simp only [i64_w,i32_w];rw [c40b1]) | skip)
           by_cases c41 : x5_18 < (a0.size : Int)
           ·rw [if_pos c41] at H
            have c41b0 : decide (x5_18 < (a0.size : Int)) = true := decide_eq_true c41
            clear c41
            by_cases c43 : (bt a0 x5_18) = 101
            ·rw [if_pos c43] at H
             have c43b0 : ((bt a0 x5_18) == 101) = true := beq_iff_eq.mpr c43
             have c43b1 : ((bt a0 x5_18) != 101) = false := bne_eq_false_iff_eq.mpr c43
             clear c43
             have H' := am H
             clear H
             have p42 : 0 ≤ (x5_18 : Int) := pD
             have q42 : x5_18 < (a0.size : Int) := pD
             have hx42 := bt_at a0 x5_18
             replace p42 := eq_true p42
             replace q42 := eq_true q42
             go_wp2
             go_meet
             case rel => exact ⟨_,(false),(by first | rfl | (simp;done) | (simp [*];done)),H',⟨by have := HJ11.out;have := HJ18.out;first | omega | exact Nat.le_refl _⟩,⟨by (with_reducible repeat (first | refine zQa ?_ _ | refine zQd ?_ | refine zQb ?_ _));exact BK237.out⟩,⟨by (with_reducible repeat (first | refine zQa ?_ _ | refine zQd ?_ | refine zQb ?_ _));exact BK238.out⟩,⟨pB⟩⟩
            ·rw [if_neg c43] at H
             have c43b0 : ((bt a0 x5_18) == 101) = false := beq_eq_false_iff_ne.mpr c43
             have c43b1 : ((bt a0 x5_18) != 101) = true := bne_iff_ne.mpr c43
             have H' := am H
             clear H
             have p42 : 0 ≤ (x5_18 : Int) := pD
             have q42 : x5_18 < (a0.size : Int) := pD
             have hx42 := bt_at a0 x5_18
             replace p42 := eq_true p42
             replace q42 := eq_true q42
             have p44 : 0 ≤ (x5_18 : Int) := pD
             have q44 : x5_18 < (a0.size : Int) := pD
             have hx44 := bt_at a0 x5_18
             replace p44 := eq_true p44
             replace q44 := eq_true q44
             go_wp2
             go_meet
             case rel => exact ⟨_,(((bt a0 x5_18) != 69)),(by first | rfl | (simp;done) | (simp [*];done)),H',⟨by have := HJ11.out;have := HJ18.out;first | omega | exact Nat.le_refl _⟩,⟨by (with_reducible repeat (first | refine zQa ?_ _ | refine zQd ?_ | refine zQb ?_ _));exact BK237.out⟩,⟨by (with_reducible repeat (first | refine zQa ?_ _ | refine zQd ?_ | refine zQb ?_ _));exact BK238.out⟩,⟨pB⟩⟩
           ·rw [if_neg c41] at H
            exact absurd H (by simp)
          ·rw [if_neg c40] at H
           exact absurd H (by simp)
         case rest =>
          clear HC39
          try clear c1
          try clear p1
          try clear q1
          try clear hx1
          try clear c2
          try clear p2
          try clear c3
          try clear c3b0
          try clear c3b1
          try clear c4
          try clear p4
          try clear q4
          try clear hx4
          try clear c6
          try clear p6
          try clear c9
          try clear c9b0
          try clear c9b1
          try clear c10
          try clear c10b0
          try clear c10b1
          try clear c12
          try clear c15
          try clear c17
          try clear c17b0
          try clear c17b1
          try clear p18
          try clear q18
          try clear hx18
          try clear c20
          try clear c22
          try clear c22b0
          try clear c22b1
          try clear c23
          try clear c27
          try clear c27b0
          try clear c27b1
          try clear c28
          try clear c28b0
          try clear c28b1
          try clear c29
          try clear c29b0
          try clear c29b1
          try clear c30
          try clear c31
          try clear c31b0
          try clear c31b1
          try clear c31b2
          try clear c35
          try clear c35b0
          try clear c35b1
          try clear c36
          try clear c40
          try clear c40b0
          try clear c40b1
          try clear c41
          try clear c41b0
          try clear p42
          try clear q42
          try clear hx42
          try clear c43
          try clear c43b0
          try clear c43b1
          try clear p44
          try clear q44
          try clear hx44
          try clear q16 q24 q25 q37 q38 q7 q8
          try clear p1
          try clear p18
          try clear p2
          try clear p42
          try clear p44
          try clear p6
          try clear q1
          try clear q18
          try clear q42
          try clear q44
          obtain ⟨kq,x68_38,rfl,HA,HJ38,BK237,BK238,HB⟩ := hcut
          cases kq with
          | zero => exact absurd HA.out (by simp [r5_Read.j2])
          | succ kj38 =>
           have H := HA.out
           clear HA
           simp only [r5_Read.j2] at H
           by_cases c45 : x68_38 = true
           ·subst c45
            rw [if_pos rfl] at H
            simp only [Option.some.injEq,Prod.mk.injEq] at H
            obtain ⟨rfl,rfl,rfl⟩ := H
            have hnb46 := NB238_237.out
            have hnc46 := NB237_238.out
            have q47 := cf2 BK238.out
            have q48 := cf2 BK237.out
            go_wp2
            refine bodyPost_ret (zXb rfl _ _ gb237 37 #[.string x239000_18,.int .i64 x239001_18] (0,0) _ rfl (by (with_reducible repeat (first | refine zQa ?_ _ | refine zQd ?_ | refine zQb ?_ _));refine zQz (cs := #[.string x239000_18,.int .i64 x238001_18]) ?_ 1 _ rfl;(with_reducible repeat (first | refine zQa ?_ _ | refine zQd ?_ | refine zQb ?_ _));refine zQz (cs := #[.string x238000_18,.int .i64 x238001_18]) ?_ 0 _ rfl;(with_reducible repeat (first | refine zQa ?_ _ | refine zQd ?_ | refine zQb ?_ _));exact BK237.out) Tryz.underlying37 rfl (by kernel_rfl)) rfl ?_
            exact ⟨by first | rfl | (simp [zQq,zQp] <;> rfl) | (simp only [← hji11];first | rfl | (simp [zQq,zQp] <;> rfl)) | (simp [*,zQq,zQp] <;> rfl),pB⟩
           ·replace c45 := Bool.eq_false_iff.mpr c45
            subst c45
            rw [if_neg (show ¬ (false = true) by decide)] at H
            have HC49 := am H
            clear H
            go_upto_region 18 with (fail)
            go_cut [87] (fun v87 wc => ∃ (kq : Nat) (x87_48 : Bool),v87 = .bool x87_48 ∧ Aside0 (r5_Read.j3 kq a0 (wrap64 (x5_18 + 1)) false x87_48 x239000_18 x239001_18 = some (r1,r2,r3)) ∧ Aside0 (kq ≤ kj38) ∧ Aside0 (wc.heap[gb237]? = some (.cells #[.string x238000_18,.int .i64 x238001_18] 37 (0,0))) ∧ Aside0 (wc.heap[gb238]? = some (.cells #[.string x239000_18,.int .i64 x239001_18] 37 (0,0))) ∧ Aside0 (Below w.heap.size w wc))
            case first =>
             have H := HC49.out
             clear HC49
             by_cases c50 : (wrap64 (x5_18 + 1)) < (a0.size : Int)
             ·rw [if_pos c50] at H
              have c50b0 : decide ((wrap64 (x5_18 + 1)) < (a0.size : Int)) = true := decide_eq_true c50
              clear c50
              (first | rw [c50b0] | (simp only [i64_w,i32_w];rw [c50b0]) | rw [c50b1] | (simp only [i64_w,i32_w];rw [c50b1]) | skip)
              obtain ⟨ji51,hji51⟩ : ∃ j_ : Int,(wrap64 (x5_18 + 1)) = j_ := ⟨_,rfl⟩
              replace H : (if 0 ≤ (ji51) then (if (bt a0 (ji51)) = 43 then (r5_Read.j3 kj38 a0 ji51 false true x239000_18 x239001_18) else (r5_Read.j3 kj38 a0 ji51 false ((bt a0 (ji51)) == 45) x239000_18 x239001_18)) else (none)) = some (r1,r2,r3) := by first | (rw [hji51] at H;exact H) | (simp only [hji51] at H ⊢;exact H)
              (try rw [hji51] at c50b0)
              have hji51w : (IntKind.i64.wrap (x5_18 + 1)) = ji51 := (i64_w _).trans hji51
              by_cases c52 : 0 ≤ (ji51)
              ·rw [if_pos c52] at H
               have c52b0 : decide (0 ≤ (ji51)) = true := decide_eq_true c52
               clear c52
               by_cases c54 : (bt a0 (ji51)) = 43
               ·rw [if_pos c54] at H
                have c54b0 : ((bt a0 (ji51)) == 43) = true := beq_iff_eq.mpr c54
                have c54b1 : ((bt a0 (ji51)) != 43) = false := bne_eq_false_iff_eq.mpr c54
                clear c54
                have H' := am H
                clear H
                have p53 : 0 ≤ ((ji51) : Int) := pD
                have q53 : (ji51) < (a0.size : Int) := pD
                have hx53 := bt_at a0 (ji51)
                replace p53 := eq_true p53
                replace q53 := eq_true q53
                go_wp2
                go_meet
                case rel => exact ⟨_,(true),(by first | rfl | (simp;done) | (simp [*];done)),(by first | exact H' | (rw [hji51];exact H')),⟨by have := HJ11.out;have := HJ18.out;have := HJ38.out;first | omega | exact Nat.le_refl _⟩,⟨by (with_reducible repeat (first | refine zQa ?_ _ | refine zQd ?_ | refine zQb ?_ _));exact BK237.out⟩,⟨by (with_reducible repeat (first | refine zQa ?_ _ | refine zQd ?_ | refine zQb ?_ _));exact BK238.out⟩,⟨pB⟩⟩
               ·rw [if_neg c54] at H
                have c54b0 : ((bt a0 (ji51)) == 43) = false := beq_eq_false_iff_ne.mpr c54
                have c54b1 : ((bt a0 (ji51)) != 43) = true := bne_iff_ne.mpr c54
                have H' := am H
                clear H
                have p53 : 0 ≤ ((ji51) : Int) := pD
                have q53 : (ji51) < (a0.size : Int) := pD
                have hx53 := bt_at a0 (ji51)
                replace p53 := eq_true p53
                replace q53 := eq_true q53
                have p55 : 0 ≤ ((ji51) : Int) := pD
                have q55 : (ji51) < (a0.size : Int) := pD
                have hx55 := bt_at a0 (ji51)
                replace p55 := eq_true p55
                replace q55 := eq_true q55
                go_wp2
                go_meet
                case rel => exact ⟨_,(((bt a0 (ji51)) == 45)),(by first | rfl | (simp;done) | (simp only [← hji51] <;> (first | rfl | simp)) | (simp [*];done)),(by first | exact H' | (rw [hji51];exact H')),⟨by have := HJ11.out;have := HJ18.out;have := HJ38.out;first | omega | exact Nat.le_refl _⟩,⟨by (with_reducible repeat (first | refine zQa ?_ _ | refine zQd ?_ | refine zQb ?_ _));exact BK237.out⟩,⟨by (with_reducible repeat (first | refine zQa ?_ _ | refine zQd ?_ | refine zQb ?_ _));exact BK238.out⟩,⟨pB⟩⟩
              ·rw [if_neg c52] at H
               exact absurd H (by simp)
             ·rw [if_neg c50] at H
              have c50b0 : decide ((wrap64 (x5_18 + 1)) < (a0.size : Int)) = false := decide_eq_false c50
              clear c50
              (first | rw [c50b0] | (simp only [i64_w,i32_w];rw [c50b0]) | rw [c50b1] | (simp only [i64_w,i32_w];rw [c50b1]) | skip)
              have H' := am H
              clear H
              go_wp2
              go_meet
              case rel => exact ⟨_,(false),(by first | rfl | (simp;done) | (simp [*];done)),(by first | exact H' | (rw [hji51];exact H')),⟨by have := HJ11.out;have := HJ18.out;have := HJ38.out;first | omega | exact Nat.le_refl _⟩,⟨by (with_reducible repeat (first | refine zQa ?_ _ | refine zQd ?_ | refine zQb ?_ _));exact BK237.out⟩,⟨by (with_reducible repeat (first | refine zQa ?_ _ | refine zQd ?_ | refine zQb ?_ _));exact BK238.out⟩,⟨pB⟩⟩
            case rest =>
             clear HC49
             try clear c1
             try clear p1
             try clear q1
             try clear hx1
             try clear c2
             try clear p2
             try clear c3
             try clear c3b0
             try clear c3b1
             try clear c4
             try clear p4
             try clear q4
             try clear hx4
             try clear c5
             try clear p5
             try clear q5
             try clear hx5
             try clear c6
             try clear p6
             try clear c9
             try clear c9b0
             try clear c9b1
             try clear c10
             try clear c10b0
             try clear c10b1
             try clear c12
             try clear c15
             try clear c17
             try clear c17b0
             try clear c17b1
             try clear p18
             try clear q18
             try clear hx18
             try clear c20
             try clear c22
             try clear c22b0
             try clear c22b1
             try clear c23
             try clear c27
             try clear c27b0
             try clear c27b1
             try clear c28
             try clear c28b0
             try clear c28b1
             try clear c29
             try clear c29b0
             try clear c29b1
             try clear c30
             try clear c31
             try clear c31b0
             try clear c31b1
             try clear c31b2
             try clear c35
             try clear c35b0
             try clear c35b1
             try clear c36
             try clear c40
             try clear c40b0
             try clear c40b1
             try clear c41
             try clear c41b0
             try clear p42
             try clear q42
             try clear hx42
             try clear c43
             try clear c43b0
             try clear c43b1
             try clear p44
             try clear q44
             try clear hx44
             try clear c45
             try clear c46
             try clear c50
             try clear c50b0
             try clear c50b1
             try clear c52
             try clear c52b0
             try clear p53
             try clear q53
             try clear hx53
             try clear c54
             try clear c54b0
             try clear c54b1
             try clear p55
             try clear q55
             try clear hx55
             try clear q16 q24 q25 q37 q38 q47 q48 q7 q8
             try clear p1
             try clear p18
             try clear p2
             try clear p4
             try clear p42
             try clear p44
             try clear p53
             try clear p55
             try clear p6
             try clear q1
             try clear q18
             try clear q4
             try clear q42
             try clear q44
             try clear q53
             try clear q55
             obtain ⟨kq,x87_48,rfl,HA,HJ48,BK237,BK238,HB⟩ := hcut
             cases kq with
             | zero => exact absurd HA.out (by simp [r5_Read.j3])
             | succ kj48 =>
              have H := HA.out
              clear HA
              simp only [r5_Read.j3] at H
              have HC56 := am H
              clear H
              go_upto_if 87 with (fail)
              go_cut [5,7] (fun v5 v7 wc => ∃ (kq : Nat) (x5_55 : Int) (x7_55 : Bool),v5 = .int .i64 x5_55 ∧ v7 = .bool x7_55 ∧ Aside0 (r5_Read.j4 kq a0 x5_55 x7_55 x239000_18 x239001_18 = some (r1,r2,r3)) ∧ Aside0 (kq ≤ kj48) ∧ Aside0 (wc.heap[gb237]? = some (.cells #[.string x238000_18,.int .i64 x238001_18] 37 (0,0))) ∧ Aside0 (wc.heap[gb238]? = some (.cells #[.string x239000_18,.int .i64 x239001_18] 37 (0,0))) ∧ Aside0 (Below w.heap.size w wc))
              case first =>
               have H := HC56.out
               clear HC56
               by_cases c57 : x87_48 = true
               ·subst c57
                rw [if_pos rfl] at H
                obtain ⟨ji58,hji58⟩ : ∃ j_ : Int,(wrap64 (x5_18 + 1)) = j_ := ⟨_,rfl⟩
                replace H : (if 0 ≤ (ji58) then (if (ji58) < (a0.size : Int) then (r5_Read.j4 kj48 a0 (wrap64 ((ji58) + 1)) ((bt a0 (ji58)) == 45) x239000_18 x239001_18) else (none)) else (none)) = some (r1,r2,r3) := by first | (rw [hji58] at H;exact H) | (simp only [hji58] at H ⊢;exact H)
                have hji58w : (IntKind.i64.wrap (x5_18 + 1)) = ji58 := (i64_w _).trans hji58
                by_cases c59 : 0 ≤ (ji58)
                ·rw [if_pos c59] at H
                 have c59b0 : decide (0 ≤ (ji58)) = true := decide_eq_true c59
                 clear c59
                 (first | rw [c59b0] | (simp only [i64_w,i32_w];rw [c59b0]) | rw [c59b1] | (simp only [i64_w,i32_w];rw [c59b1]) | skip)
                 by_cases c60 : (ji58) < (a0.size : Int)
                 ·rw [if_pos c60] at H
                  have c60b0 : decide ((ji58) < (a0.size : Int)) = true := decide_eq_true c60
                  clear c60
                  have H' := am H
                  clear H
                  have p61 : 0 ≤ ((ji58) : Int) := pD
                  have q61 : (ji58) < (a0.size : Int) := pD
                  have hx61 := bt_at a0 (ji58)
                  replace p61 := eq_true p61
                  replace q61 := eq_true q61
                  go_wp2
                  go_meet
                  case rel => exact ⟨_,(wrap64 ((ji58) + 1)),(((bt a0 (ji58)) == 45)),(by first | rfl | (simp;done) | (simp only [← hji58] <;> (first | rfl | simp)) | (simp [*];done)),(by first | rfl | (simp;done) | (simp only [← hji58] <;> (first | rfl | simp)) | (simp [*];done)),(by first | exact H' | (rw [hji58];exact H')),⟨by have := HJ11.out;have := HJ18.out;have := HJ38.out;have := HJ48.out;first | omega | exact Nat.le_refl _⟩,⟨by (with_reducible repeat (first | refine zQa ?_ _ | refine zQd ?_ | refine zQb ?_ _));exact BK237.out⟩,⟨by (with_reducible repeat (first | refine zQa ?_ _ | refine zQd ?_ | refine zQb ?_ _));exact BK238.out⟩,⟨pB⟩⟩
                 ·rw [if_neg c60] at H
                  exact absurd H (by simp)
                ·rw [if_neg c59] at H
                 exact absurd H (by simp)
               ·replace c57 := Bool.eq_false_iff.mpr c57
                subst c57
                rw [if_neg (show ¬ (false = true) by decide)] at H
                have H' := am H
                clear H
                go_wp2
                go_meet
                case rel => exact ⟨_,((wrap64 (x5_18 + 1))),(false),(by first | rfl | (simp;done) | (simp [*];done)),(by first | rfl | (simp;done) | (simp [*];done)),(by first | exact H' | (rw [hji58];exact H')),⟨by have := HJ11.out;have := HJ18.out;have := HJ38.out;have := HJ48.out;first | omega | exact Nat.le_refl _⟩,⟨by (with_reducible repeat (first | refine zQa ?_ _ | refine zQd ?_ | refine zQb ?_ _));exact BK237.out⟩,⟨by (with_reducible repeat (first | refine zQa ?_ _ | refine zQd ?_ | refine zQb ?_ _));exact BK238.out⟩,⟨pB⟩⟩
              case rest =>
               clear HC56
               try clear c1
               try clear p1
               try clear q1
               try clear hx1
               try clear c2
               try clear p2
               try clear c3
               try clear c3b0
               try clear c3b1
               try clear c4
               try clear p4
               try clear q4
               try clear hx4
               try clear c5
               try clear p5
               try clear q5
               try clear hx5
               try clear c6
               try clear p6
               try clear q6
               try clear hx6
               try clear c9
               try clear c9b0
               try clear c9b1
               try clear c10
               try clear c10b0
               try clear c10b1
               try clear c12
               try clear c15
               try clear c17
               try clear c17b0
               try clear c17b1
               try clear p18
               try clear q18
               try clear hx18
               try clear c20
               try clear c22
               try clear c22b0
               try clear c22b1
               try clear c23
               try clear c27
               try clear c27b0
               try clear c27b1
               try clear c28
               try clear c28b0
               try clear c28b1
               try clear c29
               try clear c29b0
               try clear c29b1
               try clear c30
               try clear c31
               try clear c31b0
               try clear c31b1
               try clear c31b2
               try clear c35
               try clear c35b0
               try clear c35b1
               try clear c36
               try clear c40
               try clear c40b0
               try clear c40b1
               try clear c41
               try clear c41b0
               try clear p42
               try clear q42
               try clear hx42
               try clear c43
               try clear c43b0
               try clear c43b1
               try clear p44
               try clear q44
               try clear hx44
               try clear c45
               try clear c46
               try clear c50
               try clear c50b0
               try clear c50b1
               try clear c52
               try clear c52b0
               try clear p53
               try clear q53
               try clear hx53
               try clear c54
               try clear c54b0
               try clear c54b1
               try clear p55
               try clear q55
               try clear hx55
               try clear c57
               try clear c59
               try clear c59b0
               try clear c59b1
               try clear c60
               try clear c60b0
               try clear p61
               try clear q61
               try clear hx61
               try clear q16 q24 q25 q37 q38 q47 q48 q7 q8
               try clear p1
               try clear p18
               try clear p2
               try clear p4
               try clear p42
               try clear p44
               try clear p5
               try clear p53
               try clear p55
               try clear p6
               try clear p61
               try clear q1
               try clear q18
               try clear q4
               try clear q42
               try clear q44
               try clear q5
               try clear q53
               try clear q55
               try clear q61
               obtain ⟨kq,x5_55,x7_55,rfl,rfl,HA,HJ55,BK237,BK238,HB⟩ := hcut
               cases kq with
               | zero => exact absurd HA.out (by simp [r5_Read.j4])
               | succ kj55 =>
                have H := HA.out
                clear HA
                simp only [r5_Read.j4] at H
                have HC62 := am H
                clear H
                go_upto_region 21 with (fail)
                go_cut [105] (fun v105 wc => ∃ (kq : Nat) (x105_61 : Bool),v105 = .bool x105_61 ∧ Aside0 (r5_Read.j5 kq a0 x5_55 x7_55 x105_61 x239000_18 x239001_18 = some (r1,r2,r3)) ∧ Aside0 (kq ≤ kj55) ∧ Aside0 (wc.heap[gb237]? = some (.cells #[.string x238000_18,.int .i64 x238001_18] 37 (0,0))) ∧ Aside0 (wc.heap[gb238]? = some (.cells #[.string x239000_18,.int .i64 x239001_18] 37 (0,0))) ∧ Aside0 (Below w.heap.size w wc))
                case first =>
                 have H := HC62.out
                 clear HC62
                 by_cases c63 : x5_55 = (a0.size : Int)
                 ·rw [if_pos c63] at H
                  have c63b0 : (x5_55 == (a0.size : Int)) = true := beq_iff_eq.mpr c63
                  have c63b1 : (x5_55 != (a0.size : Int)) = false := bne_eq_false_iff_eq.mpr c63
                  clear c63
                  (first | rw [c63b0] | (simp only [i64_w,i32_w];rw [c63b0]) | rw [c63b1] | (simp only [i64_w,i32_w];rw [c63b1]) | skip)
                  have H' := am H
                  clear H
                  go_wp2
                  go_meet
                  case rel => exact ⟨_,(true),(by first | rfl | (simp;done) | (simp [*];done)),H',⟨by have := HJ11.out;have := HJ18.out;have := HJ38.out;have := HJ48.out;have := HJ55.out;first | omega | exact Nat.le_refl _⟩,⟨by (with_reducible repeat (first | refine zQa ?_ _ | refine zQd ?_ | refine zQb ?_ _));exact BK237.out⟩,⟨by (with_reducible repeat (first | refine zQa ?_ _ | refine zQd ?_ | refine zQb ?_ _));exact BK238.out⟩,⟨pB⟩⟩
                 ·rw [if_neg c63] at H
                  have c63b0 : (x5_55 == (a0.size : Int)) = false := beq_eq_false_iff_ne.mpr c63
                  have c63b1 : (x5_55 != (a0.size : Int)) = true := bne_iff_ne.mpr c63
                  (first | rw [c63b0] | (simp only [i64_w,i32_w];rw [c63b0]) | rw [c63b1] | (simp only [i64_w,i32_w];rw [c63b1]) | skip)
                  replace H := Option.bind_eq_some_iff.mp H
                  obtain ⟨t241,A640,H⟩ := H
                  try dsimp only at H
                  have A64 := am A640
                  clear A640
                  have H' := am H
                  clear H
                  go_wp2_with (first | (go_at_call 30;(with_reducible refine (r5_digits.calls kj55 a0 x5_55 t241 _ A64.out).mono ?_);rintro e w' ⟨rfl,⟨nd,rfl⟩⟩))
                  go_meet
                  case rel => exact ⟨_,((t241 != (a0.size : Int))),(by first | rfl | (simp;done) | (simp [*];done)),H',⟨by have := HJ11.out;have := HJ18.out;have := HJ38.out;have := HJ48.out;have := HJ55.out;first | omega | exact Nat.le_refl _⟩,⟨by (with_reducible repeat (first | refine zQa ?_ _ | refine zQd ?_ | refine zQb ?_ _));exact BK237.out⟩,⟨by (with_reducible repeat (first | refine zQa ?_ _ | refine zQd ?_ | refine zQb ?_ _));exact BK238.out⟩,⟨pB⟩⟩
                case rest =>
                 clear HC62
                 try clear c1
                 try clear p1
                 try clear q1
                 try clear hx1
                 try clear c2
                 try clear p2
                 try clear c3
                 try clear c3b0
                 try clear c3b1
                 try clear c4
                 try clear p4
                 try clear q4
                 try clear hx4
                 try clear c5
                 try clear p5
                 try clear q5
                 try clear hx5
                 try clear c6
                 try clear p6
                 try clear q6
                 try clear hx6
                 try clear c9
                 try clear c9b0
                 try clear c9b1
                 try clear c10
                 try clear c10b0
                 try clear c10b1
                 try clear c12
                 try clear c15
                 try clear c17
                 try clear c17b0
                 try clear c17b1
                 try clear p18
                 try clear q18
                 try clear hx18
                 try clear c20
                 try clear c22
                 try clear c22b0
                 try clear c22b1
                 try clear c23
                 try clear c27
                 try clear c27b0
                 try clear c27b1
                 try clear c28
                 try clear c28b0
                 try clear c28b1
                 try clear c29
                 try clear c29b0
                 try clear c29b1
                 try clear c30
                 try clear c31
                 try clear c31b0
                 try clear c31b1
                 try clear c31b2
                 try clear c35
                 try clear c35b0
                 try clear c35b1
                 try clear c36
                 try clear c40
                 try clear c40b0
                 try clear c40b1
                 try clear c41
                 try clear c41b0
                 try clear p42
                 try clear q42
                 try clear hx42
                 try clear c43
                 try clear c43b0
                 try clear c43b1
                 try clear p44
                 try clear q44
                 try clear hx44
                 try clear c45
                 try clear c46
                 try clear c50
                 try clear c50b0
                 try clear c50b1
                 try clear c52
                 try clear c52b0
                 try clear p53
                 try clear q53
                 try clear hx53
                 try clear c54
                 try clear c54b0
                 try clear c54b1
                 try clear p55
                 try clear q55
                 try clear hx55
                 try clear c57
                 try clear c59
                 try clear c59b0
                 try clear c59b1
                 try clear c60
                 try clear c60b0
                 try clear p61
                 try clear q61
                 try clear hx61
                 try clear c63
                 try clear c63b0
                 try clear c63b1
                 try clear p64
                 try clear q16 q24 q25 q37 q38 q47 q48 q7 q8
                 try clear p1
                 try clear p18
                 try clear p2
                 try clear p4
                 try clear p42
                 try clear p44
                 try clear p5
                 try clear p53
                 try clear p55
                 try clear p6
                 try clear p61
                 try clear q1
                 try clear q18
                 try clear q4
                 try clear q42
                 try clear q44
                 try clear q5
                 try clear q53
                 try clear q55
                 try clear q6
                 try clear q61
                 obtain ⟨kq,x105_61,rfl,HA,HJ61,BK237,BK238,HB⟩ := hcut
                 cases kq with
                 | zero => exact absurd HA.out (by simp [r5_Read.j5])
                 | succ kj61 =>
                  have H := HA.out
                  clear HA
                  simp only [r5_Read.j5] at H
                  by_cases c65 : x105_61 = true
                  ·subst c65
                   rw [if_pos rfl] at H
                   simp only [Option.some.injEq,Prod.mk.injEq] at H
                   obtain ⟨rfl,rfl,rfl⟩ := H
                   have hnb66 := NB238_237.out
                   have hnc66 := NB237_238.out
                   have q67 := cf2 BK238.out
                   have q68 := cf2 BK237.out
                   go_wp2
                   refine bodyPost_ret (zXb rfl _ _ gb237 37 #[.string x239000_18,.int .i64 x239001_18] (0,0) _ rfl (by (with_reducible repeat (first | refine zQa ?_ _ | refine zQd ?_ | refine zQb ?_ _));refine zQz (cs := #[.string x239000_18,.int .i64 x238001_18]) ?_ 1 _ rfl;(with_reducible repeat (first | refine zQa ?_ _ | refine zQd ?_ | refine zQb ?_ _));refine zQz (cs := #[.string x238000_18,.int .i64 x238001_18]) ?_ 0 _ rfl;(with_reducible repeat (first | refine zQa ?_ _ | refine zQd ?_ | refine zQb ?_ _));exact BK237.out) Tryz.underlying37 rfl (by kernel_rfl)) rfl ?_
                   exact ⟨by first | rfl | (simp [zQq,zQp] <;> rfl) | (simp only [← hji11];first | rfl | (simp [zQq,zQp] <;> rfl)) | (simp [*,zQq,zQp] <;> rfl),pB⟩
                  ·replace c65 := Bool.eq_false_iff.mpr c65
                   subst c65
                   rw [if_neg (show ¬ (false = true) by decide)] at H
                   have H' := am H
                   clear H
                   go_wp2
                   go_loopg [8,9] kj61 (fun kq v8 v9 w' => ∃ (x8_7 : Int) (x9_7 : Int),v8 = .int .i64 x8_7 ∧ v9 = .int .i64 x9_7 ∧ Aside0 (r5_Read.l0 kq a0 x7_55 x8_7 x9_7 x239000_18 x239001_18 = some (r1,r2,r3)) ∧ Aside0 (kq ≤ kj61) ∧ Aside0 (w'.heap[gb237]? = some (.cells #[.string x238000_18,.int .i64 x238001_18] 37 (0,0))) ∧ Aside0 (w'.heap[gb238]? = some (.cells #[.string x239000_18,.int .i64 x239001_18] 37 (0,0))) ∧ Aside0 (Below w.heap.size w w'))
                   case atStart => exact ⟨(0),(x5_55),(by first | rfl | (simp;done) | (simp [*];done)),(by first | rfl | (simp;done) | (simp [*];done)),H',⟨Nat.le_refl _⟩,⟨by (with_reducible repeat (first | refine zQa ?_ _ | refine zQd ?_ | refine zQb ?_ _));exact BK237.out⟩,⟨by (with_reducible repeat (first | refine zQa ?_ _ | refine zQd ?_ | refine zQb ?_ _));exact BK238.out⟩,⟨pB⟩⟩
                   case round =>
                    clear H'
                    try clear c1
                    try clear p1
                    try clear q1
                    try clear hx1
                    try clear c2
                    try clear p2
                    try clear c3
                    try clear c3b0
                    try clear c3b1
                    try clear c4
                    try clear p4
                    try clear q4
                    try clear hx4
                    try clear c5
                    try clear p5
                    try clear q5
                    try clear hx5
                    try clear c6
                    try clear p6
                    try clear q6
                    try clear hx6
                    try clear c9
                    try clear c9b0
                    try clear c9b1
                    try clear c10
                    try clear c10b0
                    try clear c10b1
                    try clear c12
                    try clear c15
                    try clear c17
                    try clear c17b0
                    try clear c17b1
                    try clear p18
                    try clear q18
                    try clear hx18
                    try clear c20
                    try clear c22
                    try clear c22b0
                    try clear c22b1
                    try clear c23
                    try clear c27
                    try clear c27b0
                    try clear c27b1
                    try clear c28
                    try clear c28b0
                    try clear c28b1
                    try clear c29
                    try clear c29b0
                    try clear c29b1
                    try clear c30
                    try clear c31
                    try clear c31b0
                    try clear c31b1
                    try clear c31b2
                    try clear c35
                    try clear c35b0
                    try clear c35b1
                    try clear c36
                    try clear c40
                    try clear c40b0
                    try clear c40b1
                    try clear c41
                    try clear c41b0
                    try clear p42
                    try clear q42
                    try clear hx42
                    try clear c43
                    try clear c43b0
                    try clear c43b1
                    try clear p44
                    try clear q44
                    try clear hx44
                    try clear c45
                    try clear c46
                    try clear c50
                    try clear c50b0
                    try clear c50b1
                    try clear c52
                    try clear c52b0
                    try clear p53
                    try clear q53
                    try clear hx53
                    try clear c54
                    try clear c54b0
                    try clear c54b1
                    try clear p55
                    try clear q55
                    try clear hx55
                    try clear c57
                    try clear c59
                    try clear c59b0
                    try clear c59b1
                    try clear c60
                    try clear c60b0
                    try clear p61
                    try clear q61
                    try clear hx61
                    try clear c63
                    try clear c63b0
                    try clear c63b1
                    try clear p64
                    try clear c65
                    try clear c66
                    try clear q16 q24 q25 q37 q38 q47 q48 q67 q68 q7 q8
                    try clear p1
                    try clear p18
                    try clear p2
                    try clear p4
                    try clear p42
                    try clear p44
                    try clear p5
                    try clear p53
                    try clear p55
                    try clear p6
                    try clear p61
                    try clear p64
                    try clear q1
                    try clear q18
                    try clear q4
                    try clear q42
                    try clear q44
                    try clear q5
                    try clear q53
                    try clear q55
                    try clear q6
                    try clear q61
                    obtain ⟨x8_7,x9_7,rfl,rfl,HA,HK7,BK237,BK238,HB⟩ := hrel
                    cases gk with
                    | zero => exact absurd HA.out (by simp [r5_Read.l0])
                    | succ k7 =>
                     have H := HA.out
                     clear HA
                     simp only [r5_Read.l0] at H
                     by_cases c69 : x9_7 < (a0.size : Int)
                     ·rw [if_pos c69] at H
                      have c69b0 : decide (x9_7 < (a0.size : Int)) = true := decide_eq_true c69
                      clear c69
                      by_cases c70 : x8_7 < 9999
                      ·rw [if_pos c70] at H
                       have c70b0 : decide (x8_7 < 9999) = true := decide_eq_true c70
                       clear c70
                       by_cases c71 : 0 ≤ x9_7
                       ·rw [if_pos c71] at H
                        have c71b0 : decide (0 ≤ x9_7) = true := decide_eq_true c71
                        clear c71
                        have H' := am H
                        clear H
                        have p72 : 0 ≤ (x9_7 : Int) := pD
                        have q72 : x9_7 < (a0.size : Int) := pD
                        have hx72 := bt_at a0 x9_7
                        replace p72 := eq_true p72
                        replace q72 := eq_true q72
                        go_wp2
                        go_roundg k7
                        case measure => have := HJ11.out;have := HJ18.out;have := HJ38.out;have := HJ48.out;have := HJ55.out;have := HJ61.out;have := HK7.out;omega
                        case rel => exact ⟨(wrap64 ((wrap64 (10 * x8_7)) + (((bt a0 x9_7) - 48) % 256))),(wrap64 (x9_7 + 1)),(by first | rfl | (simp;done) | (simp [*];done)),(by first | rfl | (simp;done) | (simp [*];done)),H',⟨by have := HJ11.out;have := HJ18.out;have := HJ38.out;have := HJ48.out;have := HJ55.out;have := HJ61.out;have := HK7.out;omega⟩,⟨by (with_reducible repeat (first | refine zQa ?_ _ | refine zQd ?_ | refine zQb ?_ _));exact BK237.out⟩,⟨by (with_reducible repeat (first | refine zQa ?_ _ | refine zQd ?_ | refine zQb ?_ _));exact BK238.out⟩,⟨pB⟩⟩
                       ·rw [if_neg c71] at H
                        exact absurd H (by simp)
                      ·rw [if_neg c70] at H
                       have c70b0 : decide (x8_7 < 9999) = false := decide_eq_false c70
                       clear c70
                       have H' := am H
                       clear H
                       go_wp2
                       go_roundg k7
                       case measure => have := HJ11.out;have := HJ18.out;have := HJ38.out;have := HJ48.out;have := HJ55.out;have := HJ61.out;have := HK7.out;omega
                       case rel => exact ⟨(x8_7),(wrap64 (x9_7 + 1)),(by first | rfl | (simp;done) | (simp [*];done)),(by first | rfl | (simp;done) | (simp [*];done)),H',⟨by have := HJ11.out;have := HJ18.out;have := HJ38.out;have := HJ48.out;have := HJ55.out;have := HJ61.out;have := HK7.out;omega⟩,⟨by (with_reducible repeat (first | refine zQa ?_ _ | refine zQd ?_ | refine zQb ?_ _));exact BK237.out⟩,⟨by (with_reducible repeat (first | refine zQa ?_ _ | refine zQd ?_ | refine zQb ?_ _));exact BK238.out⟩,⟨pB⟩⟩
                     ·rw [if_neg c69] at H
                      have c69b0 : decide (x9_7 < (a0.size : Int)) = false := decide_eq_false c69
                      clear c69
                      by_cases c73 : x8_7 > 9999
                      ·rw [if_pos c73] at H
                       have c73b0 : decide (9999 < x8_7) = true := decide_eq_true c73
                       clear c73
                       by_cases c74 : x7_55 = true
                       ·subst c74
                        rw [if_pos rfl] at H
                        simp only [Option.some.injEq,Prod.mk.injEq] at H
                        obtain ⟨rfl,rfl,rfl⟩ := H
                        have hnb75 := NB238_237.out
                        have hnc75 := NB237_238.out
                        have q76 := cf2 BK238.out
                        have q77 := cf2 BK237.out
                        go_wp2
                        refine bodyPost_ret (zXb rfl _ _ gb237 37 #[.string x239000_18,.int .i64 (wrap64 (x239001_18 + (-9999)))] (0,0) _ rfl (by (with_reducible repeat (first | refine zQa ?_ _ | refine zQd ?_ | refine zQb ?_ _));refine zQz (cs := #[.string x239000_18,.int .i64 x238001_18]) ?_ 1 _ rfl;(with_reducible repeat (first | refine zQa ?_ _ | refine zQd ?_ | refine zQb ?_ _));refine zQz (cs := #[.string x238000_18,.int .i64 x238001_18]) ?_ 0 _ rfl;(with_reducible repeat (first | refine zQa ?_ _ | refine zQd ?_ | refine zQb ?_ _));refine zQL ?_ NB237_238.out _;(with_reducible repeat (first | refine zQa ?_ _ | refine zQd ?_ | refine zQb ?_ _));exact BK237.out) Tryz.underlying37 rfl (by kernel_rfl)) rfl ?_
                        exact ⟨by first | rfl | (simp [zQq,zQp] <;> rfl) | (simp only [← hji11];first | rfl | (simp [zQq,zQp] <;> rfl)) | (simp [*,zQq,zQp] <;> rfl),pB⟩
                       ·replace c74 := Bool.eq_false_iff.mpr c74
                        subst c74
                        rw [if_neg (show ¬ (false = true) by decide)] at H
                        simp only [Option.some.injEq,Prod.mk.injEq] at H
                        obtain ⟨rfl,rfl,rfl⟩ := H
                        have hnb78 := NB238_237.out
                        have hnc78 := NB237_238.out
                        have q79 := cf2 BK238.out
                        have q80 := cf2 BK237.out
                        go_wp2
                        refine bodyPost_ret (zXb rfl _ _ gb237 37 #[.string x239000_18,.int .i64 (wrap64 (x239001_18 + 9999))] (0,0) _ rfl (by (with_reducible repeat (first | refine zQa ?_ _ | refine zQd ?_ | refine zQb ?_ _));refine zQz (cs := #[.string x239000_18,.int .i64 x238001_18]) ?_ 1 _ rfl;(with_reducible repeat (first | refine zQa ?_ _ | refine zQd ?_ | refine zQb ?_ _));refine zQz (cs := #[.string x238000_18,.int .i64 x238001_18]) ?_ 0 _ rfl;(with_reducible repeat (first | refine zQa ?_ _ | refine zQd ?_ | refine zQb ?_ _));refine zQL ?_ NB237_238.out _;(with_reducible repeat (first | refine zQa ?_ _ | refine zQd ?_ | refine zQb ?_ _));exact BK237.out) Tryz.underlying37 rfl (by kernel_rfl)) rfl ?_
                        exact ⟨by first | rfl | (simp [zQq,zQp] <;> rfl) | (simp only [← hji11];first | rfl | (simp [zQq,zQp] <;> rfl)) | (simp [*,zQq,zQp] <;> rfl),pB⟩
                      ·rw [if_neg c73] at H
                       have c73b0 : decide (9999 < x8_7) = false := decide_eq_false c73
                       clear c73
                       by_cases c81 : x7_55 = true
                       ·subst c81
                        rw [if_pos rfl] at H
                        simp only [Option.some.injEq,Prod.mk.injEq] at H
                        obtain ⟨rfl,rfl,rfl⟩ := H
                        have hnb82 := NB238_237.out
                        have hnc82 := NB237_238.out
                        have q83 := cf2 BK238.out
                        have q84 := cf2 BK237.out
                        go_wp2
                        refine bodyPost_ret (zXb rfl _ _ gb237 37 #[.string x239000_18,.int .i64 (wrap64 (x239001_18 + (wrap64 (-x8_7))))] (0,0) _ rfl (by (with_reducible repeat (first | refine zQa ?_ _ | refine zQd ?_ | refine zQb ?_ _));refine zQz (cs := #[.string x239000_18,.int .i64 x238001_18]) ?_ 1 _ rfl;(with_reducible repeat (first | refine zQa ?_ _ | refine zQd ?_ | refine zQb ?_ _));refine zQz (cs := #[.string x238000_18,.int .i64 x238001_18]) ?_ 0 _ rfl;(with_reducible repeat (first | refine zQa ?_ _ | refine zQd ?_ | refine zQb ?_ _));refine zQL ?_ NB237_238.out _;(with_reducible repeat (first | refine zQa ?_ _ | refine zQd ?_ | refine zQb ?_ _));exact BK237.out) Tryz.underlying37 rfl (by kernel_rfl)) rfl ?_
                        exact ⟨by first | rfl | (simp [zQq,zQp] <;> rfl) | (simp only [← hji11];first | rfl | (simp [zQq,zQp] <;> rfl)) | (simp [*,zQq,zQp] <;> rfl),pB⟩
                       ·replace c81 := Bool.eq_false_iff.mpr c81
                        subst c81
                        rw [if_neg (show ¬ (false = true) by decide)] at H
                        simp only [Option.some.injEq,Prod.mk.injEq] at H
                        obtain ⟨rfl,rfl,rfl⟩ := H
                        have hnb85 := NB238_237.out
                        have hnc85 := NB237_238.out
                        have q86 := cf2 BK238.out
                        have q87 := cf2 BK237.out
                        go_wp2
                        refine bodyPost_ret (zXb rfl _ _ gb237 37 #[.string x239000_18,.int .i64 (wrap64 (x239001_18 + x8_7))] (0,0) _ rfl (by (with_reducible repeat (first | refine zQa ?_ _ | refine zQd ?_ | refine zQb ?_ _));refine zQz (cs := #[.string x239000_18,.int .i64 x238001_18]) ?_ 1 _ rfl;(with_reducible repeat (first | refine zQa ?_ _ | refine zQd ?_ | refine zQb ?_ _));refine zQz (cs := #[.string x238000_18,.int .i64 x238001_18]) ?_ 0 _ rfl;(with_reducible repeat (first | refine zQa ?_ _ | refine zQd ?_ | refine zQb ?_ _));refine zQL ?_ NB237_238.out _;(with_reducible repeat (first | refine zQa ?_ _ | refine zQd ?_ | refine zQb ?_ _));exact BK237.out) Tryz.underlying37 rfl (by kernel_rfl)) rfl ?_
                        exact ⟨by first | rfl | (simp [zQq,zQp] <;> rfl) | (simp only [← hji11];first | rfl | (simp [zQq,zQp] <;> rfl)) | (simp [*,zQq,zQp] <;> rfl),pB⟩
   ·rw [if_neg c10] at H
    exact absurd H (by simp)
  ·rw [if_neg c9] at H
   exact absurd H (by simp)
end Go.Proofs.YtflcanpajgpghaaGreatDoor.Pr
end
section
namespace Go.Proofs.YtflcanpajgpghaaGreatDoor.Pr
open Go.RowKit Go.Proofs.YtflcanpajgpghaaGreatDoorW.PrintWords Go.Proofs.YtflcanpajgpghaaGreatDoorW.PrintLast Go.Proofs.YtflcanpajgpghaaGreatDoorW.PrintMore
attribute [local go_sem] zXm zXk zXy zXx zXa zQZ zXl zXj
def r1_Trim.l0 : Nat → List Int → Int → Option (List Int)
 | 0,_,_ => none
 | k + 1,x0,x3 => if x3 > 0 then (if 0 ≤ (wrap64 (x3 - 1)) then (if (wrap64 (x3 - 1)) < (x0.length : Int) then (if (rd x0 (wrap64 (x3 - 1))) = 0 then (r1_Trim.l0 k x0 (wrap64 (x3 - 1))) else ((some (([] : List Int) : List Int)).bind fun y243 => (if 0 ≤ x3 then (if x3 ≤ (x0.length : Int) then (if y243.length + (x0.take (x3 : Int).toNat).length < 17592186044416 then (some (y243 ++ (x0.take (x3 : Int).toNat))) else (none)) else (none)) else (none)))) else (none)) else (none)) else ((some (([] : List Int) : List Int)).bind fun y250 => (if 0 ≤ x3 then (if x3 ≤ (x0.length : Int) then (if y250.length + (x0.take (x3 : Int).toNat).length < 17592186044416 then (some (y250 ++ (x0.take (x3 : Int).toNat))) else (none)) else (none)) else (none)))
def r1_Trim.f (k : Nat) (l0 : List Int) : Option (List Int) := r1_Trim.l0 k l0 (l0.length : Int)
set_option maxHeartbeats 8000000 in
set_option maxRecDepth 100000 in
theorem r1_Trim.calls (k : Nat) (A0 : Option Addr) (c0 : Nat) (l0 : List Int) (r : List Int) (w : World) (hr0 : Kd.C (Kd.int .u64) w A0 l0.length l0) (hc0 : l0.length ≤ c0) (h : r1_Trim.f k l0 = some r) :
  Calls Tryz.prog 65 #[.slice A0 l0.length c0] w fun e w' => ∃ v0_ : Value,e = .returned (v0_) ∧ Kd.R (Kd.int .u64) 22 w' w.heap.size (fun _ => True) v0_ r ∧ Below w.heap.size w w' := by
 have HR0 := am hr0
 have HC0 := am hc0
 clear hr0 hc0
 have HB := am (Below.refl w.heap.size w)
 have H : (r1_Trim.l0 k l0 (l0.length : Int)) = some r := h
 clear h
 have H' := am H
 clear H
 go_enter Tryz.func65,Tryz.ntmps65
 go_wp2
 go_loopg [3] k (fun kq v3 w' => ∃ (x3_1 : Int),v3 = .int .i64 x3_1 ∧ Aside0 (r1_Trim.l0 kq l0 x3_1 = some r) ∧ Aside0 (kq ≤ k) ∧ Aside0 (Below w.heap.size w w'))
 case atStart => exact ⟨((l0.length : Int)),(by first | rfl | (simp;done) | (simp [*];done)),H',⟨Nat.le_refl _⟩,⟨pB⟩⟩
 case round =>
  clear H'
  obtain ⟨x3_1,rfl,HA,HK1,HB⟩ := hrel
  cases gk with
  | zero => exact absurd HA.out (by simp [r1_Trim.l0])
  | succ k1 =>
   have H := HA.out
   clear HA
   simp only [r1_Trim.l0] at H
   by_cases c2 : x3_1 > 0
   ·rw [if_pos c2] at H
    have c2b0 : decide (0 < x3_1) = true := decide_eq_true c2
    clear c2
    obtain ⟨ji3,hji3⟩ : ∃ j_ : Int,(wrap64 (x3_1 - 1)) = j_ := ⟨_,rfl⟩
    replace H : (if 0 ≤ (ji3) then (if (ji3) < (l0.length : Int) then (if (rd l0 (ji3)) = 0 then (r1_Trim.l0 k1 l0 ji3) else ((some (([] : List Int) : List Int)).bind fun y243 => (if 0 ≤ x3_1 then (if x3_1 ≤ (l0.length : Int) then (if y243.length + (l0.take (x3_1 : Int).toNat).length < 17592186044416 then (some (y243 ++ (l0.take (x3_1 : Int).toNat))) else (none)) else (none)) else (none)))) else (none)) else (none)) = some r := by first | (rw [hji3] at H;exact H) | (simp only [hji3] at H ⊢;exact H)
    have hji3w : (IntKind.i64.wrap (x3_1 - 1)) = ji3 := (i64_w _).trans hji3
    by_cases c4 : 0 ≤ (ji3)
    ·rw [if_pos c4] at H
     have c4b0 : decide (0 ≤ (ji3)) = true := decide_eq_true c4
     clear c4
     by_cases c5 : (ji3) < (l0.length : Int)
     ·rw [if_pos c5] at H
      have c5b0 : decide ((ji3) < (l0.length : Int)) = true := decide_eq_true c5
      clear c5
      by_cases c6 : (rd l0 (ji3)) = 0
      ·rw [if_pos c6] at H
       have c6b0 : ((rd l0 (ji3)) == 0) = true := beq_iff_eq.mpr c6
       have c6b1 : ((rd l0 (ji3)) != 0) = false := bne_eq_false_iff_eq.mpr c6
       clear c6
       have H' := am H
       clear H
       have p242 : 0 ≤ ((ji3) : Int) := pD
       have q242 : (ji3) < (l0.length : Int) := pD
       obtain ⟨ad242,e242,hx242_0⟩ := Kd.zXe HR0.out (ji3) p242 q242
       cases e242
       replace hx242_0 := (HB.out.cell (World.block_lt_of_cell? w _ hx242_0)).trans hx242_0
       replace p242 := eq_true p242
       replace q242 := eq_true q242
       go_wp2
       go_roundg k1
       case measure => have := HK1.out;omega
       case rel => exact ⟨(ji3),(by first | rfl | (simp;done) | (simp only [← hji3] <;> (first | rfl | simp)) | (simp [*];done)),H',⟨by have := HK1.out;omega⟩,⟨pB⟩⟩
      ·rw [if_neg c6] at H
       have c6b0 : ((rd l0 (ji3)) == 0) = false := beq_eq_false_iff_ne.mpr c6
       have c6b1 : ((rd l0 (ji3)) != 0) = true := bne_iff_ne.mpr c6
       obtain ⟨y243,hy243⟩ : ∃ y_ : List Int,y_ = (([] : List Int)) := ⟨_,rfl⟩
       replace H : (if 0 ≤ x3_1 then (if x3_1 ≤ (l0.length : Int) then (if y243.length + (l0.take (x3_1 : Int).toNat).length < 17592186044416 then (some (y243 ++ (l0.take (x3_1 : Int).toNat))) else (none)) else (none)) else (none)) = some r := by first | (rw [hy243];with_reducible exact H) | (have H2_ := (Option.bind_some _ _).symm.trans H;rw [hy243];with_reducible exact H2_) | (have H2_ := (Option.bind_some _ _).symm.trans H;with_reducible exact H2_) | with_reducible exact H | (rw [hy243];exact H) | exact H
       have Ny243 := am hy243
       clear hy243
       by_cases c7 : 0 ≤ x3_1
       ·rw [if_pos c7] at H
        have c7b0 := eq_true c7
        have c7b1 : decide (0 ≤ x3_1) = true := decide_eq_true c7
        clear c7
        by_cases c8 : x3_1 ≤ (l0.length : Int)
        ·rw [if_pos c8] at H
         have c8b0 := eq_true c8
         have c8b1 : decide (x3_1 ≤ (l0.length : Int)) = true := decide_eq_true c8
         clear c8
         by_cases c9 : y243.length + (l0.take (x3_1 : Int).toNat).length < 17592186044416
         ·rw [if_pos c9] at H
          have LMc9 := am c9
          clear c9
          obtain ⟨y247,hy247⟩ : ∃ y_ : List Int,y_ = (y243 ++ (l0.take (x3_1 : Int).toNat)) := ⟨_,rfl⟩
          replace H : (some y247) = some r := by first | (rw [hy247];with_reducible exact H) | (have H2_ := (Option.bind_some _ _).symm.trans H;rw [hy247];with_reducible exact H2_) | (have H2_ := (Option.bind_some _ _).symm.trans H;with_reducible exact H2_) | with_reducible exact H | (rw [hy247];exact H) | exact H
          have Ny247 := am hy247
          clear hy247
          obtain rfl := Option.some.inj H
          have p242 : 0 ≤ ((ji3) : Int) := pD
          have q242 : (ji3) < (l0.length : Int) := pD
          obtain ⟨ad242,e242,hx242_0⟩ := Kd.zXe HR0.out (ji3) p242 q242
          cases e242
          replace hx242_0 := (HB.out.cell (World.block_lt_of_cell? w _ hx242_0)).trans hx242_0
          replace p242 := eq_true p242
          replace q242 := eq_true q242
          go_wp2_with (first | ((with_reducible refine zQJ (N := 18) rfl ?_);refine Kd.R_lit (Kd.int .u64) _ 22 ?hg (N := 18) ?hd (xs := ([] : List Int)) (inner := []) (ok := fun _ => True) (okp := fun _ => True) ?hr ?hp (fun _ hk => hk) trivial (Below.refl _ _) (Nat.le_refl _) (by simp) ?_;(case hd => rfl);(case hg => rfl);(case hr => first | (go_simp;done) | (go_simp;rfl));(case hp => exact (Reps.none _ _));intro v244 w10 ho11 hb hg_ hnew_;clear hg_ hnew_;(first | rw [← Ny243.out] at ho11 | (simp only [Int.reduceToNat] at ho11;rw [← Ny243.out] at ho11));have HO245 := am (Kd.zQy ho11 (zQc pB));replace HB := am (zQf pB hb);clear hb ho11;obtain ⟨i012,hi012,_,hsz12,_⟩ := info_parts zXP;obtain ⟨hcut12,hA12,hC12⟩ := zYZ (P := Tryz.prog) (Value.int .u64) 0 59 22 .i64 Tryz.underlying59 hi012 hsz12 (some ad242) c0 l0 x3_1 pD pD HC0.out;have HR246 := am (Kd.zKx (h1 := fun _ => rfl) (hA12 _ (Kd.zZi HR0.out)));have HC246 := am hC12;clear hA12 hC12 hi012 hsz12) | ((with_reducible refine zQD (b := .append) (xs := #[.tmp 18,.tmp 21]) rfl ?_);at_builtin;refine Kd.zXG (Kd.int .u64) (w0 := w) w.heap.size rfl (.tmp 18) (.tmp 21) 59 22 (.int .u64 0) 8 rfl Tryz.underlying59 zXP rfl (by decide) (by omega) v244 y243 (l0.take (x3_1 : Int).toNat) _ _ _ (fun _ => True) (fun _ => False) rfl rfl ?aO ?aR (fun _ _ h => h) (fun _ h => h.elim) ?aF ?aB ?aS ?aL ?_;(case aR => first | (have h9_ := (Kd.zQO HR246.out HB.out);rw [show (l0.take (x3_1 : Int).toNat).length = x3_1.toNat from (by rw [List.length_take];have h_ : (x3_1 : Int) ≤ (l0.length : Int) := pD;omega)] at h9_;exact h9_) | (rw [← show (l0.take (x3_1 : Int).toNat).length = x3_1.toNat from (by rw [List.length_take];have h_ : (x3_1 : Int) ≤ (l0.length : Int) := pD;omega)];exact pC (Kd.zQO HR246.out HB.out)) | (exact pC (Kd.zQO HR246.out HB.out)));(case aB => exact pB);(case aF => exact (fun _ _ => trivial));(case aO => exact (pR HO245.out));(case aS => exact (zQc pB));(case aL => have := LMc9.out;have hlx_ := (show (l0.take (x3_1 : Int).toNat).length = x3_1.toNat from (by rw [List.length_take];have h_ : (x3_1 : Int) ≤ (l0.length : Int) := pD;omega));omega);intro v248 w13 ho hb hg hat;rw [← Ny247.out] at ho;replace HB := am (hb);have HO249 := am (ho);clear HO245;clear ho hb hg hat))
          go_ret
          exact ⟨_,by first | rfl | (simp [zQq,zQp] <;> rfl) | (simp only [← hji3];first | rfl | (simp [zQq,zQp] <;> rfl)) | (simp [*,zQq,zQp] <;> rfl),by (with_reducible repeat (first | apply Kd.zQw | apply Kd.zQu | apply Kd.zQx));exact HO249.out,pB⟩
         ·rw [if_neg c9] at H
          exact absurd H (by simp)
        ·rw [if_neg c8] at H
         exact absurd H (by simp)
       ·rw [if_neg c7] at H
        exact absurd H (by simp)
     ·rw [if_neg c5] at H
      exact absurd H (by simp)
    ·rw [if_neg c4] at H
     exact absurd H (by simp)
   ·rw [if_neg c2] at H
    have c2b0 : decide (0 < x3_1) = false := decide_eq_false c2
    clear c2
    obtain ⟨y250,hy250⟩ : ∃ y_ : List Int,y_ = (([] : List Int)) := ⟨_,rfl⟩
    replace H : (if 0 ≤ x3_1 then (if x3_1 ≤ (l0.length : Int) then (if y250.length + (l0.take (x3_1 : Int).toNat).length < 17592186044416 then (some (y250 ++ (l0.take (x3_1 : Int).toNat))) else (none)) else (none)) else (none)) = some r := by first | (rw [hy250];with_reducible exact H) | (have H2_ := (Option.bind_some _ _).symm.trans H;rw [hy250];with_reducible exact H2_) | (have H2_ := (Option.bind_some _ _).symm.trans H;with_reducible exact H2_) | with_reducible exact H | (rw [hy250];exact H) | exact H
    have Ny250 := am hy250
    clear hy250
    by_cases c14 : 0 ≤ x3_1
    ·rw [if_pos c14] at H
     have c14b0 := eq_true c14
     have c14b1 : decide (0 ≤ x3_1) = true := decide_eq_true c14
     clear c14
     by_cases c15 : x3_1 ≤ (l0.length : Int)
     ·rw [if_pos c15] at H
      have c15b0 := eq_true c15
      have c15b1 : decide (x3_1 ≤ (l0.length : Int)) = true := decide_eq_true c15
      clear c15
      by_cases c16 : y250.length + (l0.take (x3_1 : Int).toNat).length < 17592186044416
      ·rw [if_pos c16] at H
       have LMc16 := am c16
       clear c16
       obtain ⟨y254,hy254⟩ : ∃ y_ : List Int,y_ = (y250 ++ (l0.take (x3_1 : Int).toNat)) := ⟨_,rfl⟩
       replace H : (some y254) = some r := by first | (rw [hy254];with_reducible exact H) | (have H2_ := (Option.bind_some _ _).symm.trans H;rw [hy254];with_reducible exact H2_) | (have H2_ := (Option.bind_some _ _).symm.trans H;with_reducible exact H2_) | with_reducible exact H | (rw [hy254];exact H) | exact H
       have Ny254 := am hy254
       clear hy254
       obtain rfl := Option.some.inj H
       go_wp2_with (first | ((with_reducible refine zQJ (N := 18) rfl ?_);refine Kd.R_lit (Kd.int .u64) _ 22 ?hg (N := 18) ?hd (xs := ([] : List Int)) (inner := []) (ok := fun _ => True) (okp := fun _ => True) ?hr ?hp (fun _ hk => hk) trivial (Below.refl _ _) (Nat.le_refl _) (by simp) ?_;(case hd => rfl);(case hg => rfl);(case hr => first | (go_simp;done) | (go_simp;rfl));(case hp => exact (Reps.none _ _));intro v251 w17 ho18 hb hg_ hnew_;clear hg_ hnew_;(first | rw [← Ny250.out] at ho18 | (simp only [Int.reduceToNat] at ho18;rw [← Ny250.out] at ho18));have HO252 := am (Kd.zQy ho18 (zQc pB));replace HB := am (zQf pB hb);clear hb ho18;obtain ⟨i019,hi019,_,hsz19,_⟩ := info_parts zXP;obtain ⟨hcut19,hA19,hC19⟩ := zYZ (P := Tryz.prog) (Value.int .u64) 0 59 22 .i64 Tryz.underlying59 hi019 hsz19 A0 c0 l0 x3_1 pD pD HC0.out;have HR253 := am (Kd.zKx (h1 := fun _ => rfl) (hA19 _ (Kd.zZi HR0.out)));have HC253 := am hC19;clear hA19 hC19 hi019 hsz19) | ((with_reducible refine zQD (b := .append) (xs := #[.tmp 18,.tmp 21]) rfl ?_);at_builtin;refine Kd.zXG (Kd.int .u64) (w0 := w) w.heap.size rfl (.tmp 18) (.tmp 21) 59 22 (.int .u64 0) 8 rfl Tryz.underlying59 zXP rfl (by decide) (by omega) v251 y250 (l0.take (x3_1 : Int).toNat) _ _ _ (fun _ => True) (fun _ => False) rfl rfl ?aO ?aR (fun _ _ h => h) (fun _ h => h.elim) ?aF ?aB ?aS ?aL ?_;(case aR => first | (have h9_ := (Kd.zQO HR253.out HB.out);rw [show (l0.take (x3_1 : Int).toNat).length = x3_1.toNat from (by rw [List.length_take];have h_ : (x3_1 : Int) ≤ (l0.length : Int) := pD;omega)] at h9_;exact h9_) | (rw [← show (l0.take (x3_1 : Int).toNat).length = x3_1.toNat from (by rw [List.length_take];have h_ : (x3_1 : Int) ≤ (l0.length : Int) := pD;omega)];exact pC (Kd.zQO HR253.out HB.out)) | (exact pC (Kd.zQO HR253.out HB.out)));(case aB => exact pB);(case aF => exact (fun _ _ => trivial));(case aO => exact (pR HO252.out));(case aS => exact (zQc pB));(case aL => have := LMc16.out;have hlx_ := (show (l0.take (x3_1 : Int).toNat).length = x3_1.toNat from (by rw [List.length_take];have h_ : (x3_1 : Int) ≤ (l0.length : Int) := pD;omega));omega);intro v255 w20 ho hb hg hat;rw [← Ny254.out] at ho;replace HB := am (hb);have HO256 := am (ho);clear HO252;clear ho hb hg hat))
       go_ret
       exact ⟨_,pE,by (with_reducible repeat (first | apply Kd.zQw | apply Kd.zQu | apply Kd.zQx));exact HO256.out,pB⟩
      ·rw [if_neg c16] at H
       exact absurd H (by simp)
     ·rw [if_neg c15] at H
      exact absurd H (by simp)
    ·rw [if_neg c14] at H
     exact absurd H (by simp)
mutual
def r1_Product.l0 : Nat → List Int → List Int → List Int → Int → Option (List Int)
 | 0,_,_,_,_ => none
 | k + 1,x0,x1,x5,x6 => if x6 < (x0.length : Int) then (r1_Product.l1 k x0 x1 x5 x6 0 0) else ((r1_Trim.f k x5).bind fun t260 => (some t260))
def r1_Product.l1 : Nat → List Int → List Int → List Int → Int → Int → Int → Option (List Int)
 | 0,_,_,_,_,_,_ => none
 | k + 1,x0,x1,x5,x6,x7,x8 => if x8 < (x1.length : Int) then (if 0 ≤ (wrap64 (x6 + x8)) then (if (wrap64 (x6 + x8)) < (x5.length : Int) then (if 0 ≤ x6 then (if x6 < (x0.length : Int) then (if 0 ≤ x8 then (r1_Product.l1 k x0 x1 (x5.set ((wrap64 (x6 + x8)) : Int).toNat (Go.bits .and .u64 (IntKind.u64.wrap ((IntKind.u64.wrap ((rd x5 (wrap64 (x6 + x8))) + (IntKind.u64.wrap ((rd x0 x6) * (rd x1 x8))))) + x7)) 65535)) x6 ((IntKind.u64.wrap ((IntKind.u64.wrap ((rd x5 (wrap64 (x6 + x8))) + (IntKind.u64.wrap ((rd x0 x6) * (rd x1 x8))))) + x7)) / 65536) (wrap64 (x8 + 1))) else (none)) else (none)) else (none)) else (none)) else (none)) else (if 0 ≤ (wrap64 (x6 + (x1.length : Int))) then (if (wrap64 (x6 + (x1.length : Int))) < (x5.length : Int) then (r1_Product.l0 k x0 x1 (x5.set ((wrap64 (x6 + (x1.length : Int))) : Int).toNat x7) (wrap64 (x6 + 1))) else (none)) else (none))
end
def r1_Product.f (k : Nat) (l0 : List Int) (l1 : List Int) : Option (List Int) := if 0 ≤ (wrap64 ((l0.length : Int) + (l1.length : Int))) then (if (wrap64 ((l0.length : Int) + (l1.length : Int)) : Int).toNat ≤ 35184372088832 then (r1_Product.l0 k l0 l1 (List.replicate (wrap64 ((l0.length : Int) + (l1.length : Int)) : Int).toNat 0) 0) else (none)) else (none)
set_option maxHeartbeats 8000000 in
set_option maxRecDepth 100000 in
theorem r1_Product.calls (k : Nat) (A0 : Option Addr) (c0 : Nat) (l0 : List Int) (A1 : Option Addr) (c1 : Nat) (l1 : List Int) (r : List Int) (w : World) (hr0 : Kd.C (Kd.int .u64) w A0 l0.length l0) (hc0 : l0.length ≤ c0) (hr1 : Kd.C (Kd.int .u64) w A1 l1.length l1) (hc1 : l1.length ≤ c1) (h : r1_Product.f k l0 l1 = some r) :
  Calls Tryz.prog 34 #[.slice A0 l0.length c0,.slice A1 l1.length c1] w fun e w' => ∃ v0_ : Value,e = .returned (v0_) ∧ Kd.R (Kd.int .u64) 22 w' w.heap.size (fun _ => True) v0_ r ∧ Below w.heap.size w w' := by
 have HR0 := am hr0
 have HC0 := am hc0
 clear hr0 hc0
 have HR1 := am hr1
 have HC1 := am hc1
 clear hr1 hc1
 have HB := am (Below.refl w.heap.size w)
 have H : (if 0 ≤ (wrap64 ((l0.length : Int) + (l1.length : Int))) then (if (wrap64 ((l0.length : Int) + (l1.length : Int)) : Int).toNat ≤ 35184372088832 then (r1_Product.l0 k l0 l1 (List.replicate (wrap64 ((l0.length : Int) + (l1.length : Int)) : Int).toNat 0) 0) else (none)) else (none)) = some r := h
 clear h
 obtain ⟨ji3,hji3⟩ : ∃ j_ : Int,(wrap64 ((l0.length : Int) + (l1.length : Int))) = j_ := ⟨_,rfl⟩
 replace H : (if 0 ≤ (ji3) then (if (ji3 : Int).toNat ≤ 35184372088832 then (r1_Product.l0 k l0 l1 (List.replicate (ji3 : Int).toNat 0) 0) else (none)) else (none)) = some r := by first | (rw [hji3] at H;exact H) | (simp only [hji3] at H ⊢;exact H)
 have hji3w : (IntKind.i64.wrap ((l0.length : Int) + (l1.length : Int))) = ji3 := (i64_w _).trans hji3
 by_cases c4 : 0 ≤ (ji3)
 ·rw [if_pos c4] at H
  have c4b0 := eq_true c4
  have c4b1 : decide (0 ≤ (ji3)) = true := decide_eq_true c4
  clear c4
  by_cases c5 : (ji3 : Int).toNat ≤ 35184372088832
  ·rw [if_pos c5] at H
   have c5b0 := eq_true c5
   have c5b1 : decide ((ji3 : Int).toNat ≤ 35184372088832) = true := decide_eq_true c5
   clear c5
   obtain ⟨y257,hy257⟩ : ∃ y_ : List Int,y_ = (List.replicate (ji3 : Int).toNat 0) := ⟨_,rfl⟩
   replace H : (r1_Product.l0 k l0 l1 y257 0) = some r := by first | (rw [hy257];with_reducible exact H) | (have H2_ := (Option.bind_some _ _).symm.trans H;rw [hy257];with_reducible exact H2_) | (have H2_ := (Option.bind_some _ _).symm.trans H;with_reducible exact H2_) | with_reducible exact H | (rw [hy257];exact H) | exact H
   have Ny257 := am hy257
   clear hy257
   have H' := am H
   clear H
   go_enter Tryz.func34,Tryz.ntmps34
   go_wp2_with (first | ((with_reducible refine zQJ (N := 15) rfl ?_);refine Kd.zWq (Kd.int .u64) _ 22 rfl (N := 15) rfl 59 _ _ rfl ji3 rfl rfl Tryz.underlying59 (.int .u64 0) 8 zXP rfl (by decide) (by omega) 0 (ok := fun _ => True) (okp := fun _ => True) rfl (fun _ hk => hk) trivial pD (Nat.le_trans (Nat.mul_le_mul_right _ (pD : ji3.toNat ≤ 35184372088832)) (by omega)) (Below.refl _ _) (Nat.le_refl _) ?_;intro v258 w6 ho7 hb hg_ hnew_;clear hg_ hnew_;(first | rw [← Ny257.out] at ho7 | (simp only [Int.reduceToNat] at ho7;rw [← Ny257.out] at ho7));have HO259 := am (Kd.zQy ho7 (zQc pB));replace HB := am (zQf pB hb);clear hb ho7))
   repeat (go_quiet (first | ((with_reducible refine zQJ (N := 15) rfl ?_);refine Kd.zWq (Kd.int .u64) _ 22 rfl (N := 15) rfl 59 _ _ rfl ji3 rfl rfl Tryz.underlying59 (.int .u64 0) 8 zXP rfl (by decide) (by omega) 0 (ok := fun _ => True) (okp := fun _ => True) rfl (fun _ hk => hk) trivial pD (Nat.le_trans (Nat.mul_le_mul_right _ (pD : ji3.toNat ≤ 35184372088832)) (by omega)) (Below.refl _ _) (Nat.le_refl _) ?_;intro v258 w6 ho7 hb hg_ hnew_;clear hg_ hnew_;(first | rw [← Ny257.out] at ho7 | (simp only [Int.reduceToNat] at ho7;rw [← Ny257.out] at ho7));have HO259 := am (Kd.zQy ho7 (zQc pB));replace HB := am (zQf pB hb);clear hb ho7));try go_wp2_with (first | ((with_reducible refine zQJ (N := 15) rfl ?_);refine Kd.zWq (Kd.int .u64) _ 22 rfl (N := 15) rfl 59 _ _ rfl ji3 rfl rfl Tryz.underlying59 (.int .u64 0) 8 zXP rfl (by decide) (by omega) 0 (ok := fun _ => True) (okp := fun _ => True) rfl (fun _ hk => hk) trivial pD (Nat.le_trans (Nat.mul_le_mul_right _ (pD : ji3.toNat ≤ 35184372088832)) (by omega)) (Below.refl _ _) (Nat.le_refl _) ?_;intro v258 w6 ho7 hb hg_ hnew_;clear hg_ hnew_;(first | rw [← Ny257.out] at ho7 | (simp only [Int.reduceToNat] at ho7;rw [← Ny257.out] at ho7));have HO259 := am (Kd.zQy ho7 (zQc pB));replace HB := am (zQf pB hb);clear hb ho7)))
   go_loopg [6] k (fun kq v6 w' => ∃ (x5_1 : List Int) (x6_1 : Int),v6 = .int .i64 x6_1 ∧ Aside0 (r1_Product.l0 kq l0 l1 x5_1 x6_1 = some r) ∧ Aside0 (kq ≤ k) ∧ Aside0 (Kd.R (Kd.int .u64) 22 w' w.heap.size (fun _ => True) v258 x5_1) ∧ Aside0 (Below w.heap.size w w'))
   case atStart => exact ⟨(y257),(0),(by first | rfl | (simp;done) | (simp [*];done)),H',⟨Nat.le_refl _⟩,⟨by (with_reducible repeat (first | apply Kd.zQw | apply Kd.zQu | apply Kd.zQx));exact HO259.out⟩,⟨pB⟩⟩
   case round =>
    clear H'
    try clear c1
    try clear p2
    try clear c3
    try clear c4
    try clear c4b0
    try clear c4b1
    try clear c5
    try clear c5b0
    try clear c5b1
    try clear p6
    obtain ⟨x5_1,x6_1,rfl,HA,HK1,HO_5,HB⟩ := hrel
    cases gk with
    | zero => exact absurd HA.out (by simp [r1_Product.l0])
    | succ k1 =>
     have H := HA.out
     clear HA
     simp only [r1_Product.l0] at H
     by_cases c8 : x6_1 < (l0.length : Int)
     ·rw [if_pos c8] at H
      have c8b0 : decide (x6_1 < (l0.length : Int)) = true := decide_eq_true c8
      clear c8
      have H' := am H
      clear H
      go_wp2
      repeat (go_quiet (fail);try go_wp2)
      go_loopg [7,8] k1 (fun kq v7 v8 w' => ∃ (x5_2 : List Int) (x7_2 : Int) (x8_2 : Int),v7 = .int .u64 x7_2 ∧ v8 = .int .i64 x8_2 ∧ Aside0 (r1_Product.l1 kq l0 l1 x5_2 x6_1 x7_2 x8_2 = some r) ∧ Aside0 (kq ≤ k1) ∧ Aside0 (Kd.R (Kd.int .u64) 22 w' w.heap.size (fun _ => True) v258 x5_2) ∧ Aside0 (Below w.heap.size w w'))
      case atStart => exact ⟨(x5_1),(0),(0),(by first | rfl | (simp;done) | (simp [*];done)),(by first | rfl | (simp;done) | (simp [*];done)),H',⟨Nat.le_refl _⟩,⟨by (with_reducible repeat (first | apply Kd.zQw | apply Kd.zQu | apply Kd.zQx));exact HO_5.out⟩,⟨pB⟩⟩
      case round =>
       clear H'
       try clear c1
       try clear p2
       try clear c3
       try clear c4
       try clear c4b0
       try clear c4b1
       try clear c5
       try clear c5b0
       try clear c5b1
       try clear p6
       try clear c8
       try clear c8b0
       try clear p2
       try clear p6
       obtain ⟨x5_2,x7_2,x8_2,rfl,rfl,HA,HK2,HO_5,HB⟩ := hrel
       cases gk with
       | zero => exact absurd HA.out (by simp [r1_Product.l1])
       | succ k2 =>
        have H := HA.out
        clear HA
        simp only [r1_Product.l1] at H
        by_cases c9 : x8_2 < (l1.length : Int)
        ·rw [if_pos c9] at H
         have c9b0 : decide (x8_2 < (l1.length : Int)) = true := decide_eq_true c9
         clear c9
         obtain ⟨ji10,hji10⟩ : ∃ j_ : Int,(wrap64 (x6_1 + x8_2)) = j_ := ⟨_,rfl⟩
         replace H : (if 0 ≤ (ji10) then (if (ji10) < (x5_2.length : Int) then (if 0 ≤ x6_1 then (if x6_1 < (l0.length : Int) then (if 0 ≤ x8_2 then (r1_Product.l1 k2 l0 l1 (x5_2.set ((ji10) : Int).toNat (Go.bits .and .u64 (IntKind.u64.wrap ((IntKind.u64.wrap ((rd x5_2 (ji10)) + (IntKind.u64.wrap ((rd l0 x6_1) * (rd l1 x8_2))))) + x7_2)) 65535)) x6_1 ((IntKind.u64.wrap ((IntKind.u64.wrap ((rd x5_2 (ji10)) + (IntKind.u64.wrap ((rd l0 x6_1) * (rd l1 x8_2))))) + x7_2)) / 65536) (wrap64 (x8_2 + 1))) else (none)) else (none)) else (none)) else (none)) else (none)) = some r := by first | (rw [hji10] at H;exact H) | (simp only [hji10] at H ⊢;exact H)
         have hji10w : (IntKind.i64.wrap (x6_1 + x8_2)) = ji10 := (i64_w _).trans hji10
         by_cases c11 : 0 ≤ (ji10)
         ·rw [if_pos c11] at H
          have c11b0 : decide (0 ≤ (ji10)) = true := decide_eq_true c11
          clear c11
          by_cases c12 : (ji10) < (x5_2.length : Int)
          ·rw [if_pos c12] at H
           have c12b0 : decide ((ji10) < (x5_2.length : Int)) = true := decide_eq_true c12
           clear c12
           by_cases c13 : 0 ≤ x6_1
           ·rw [if_pos c13] at H
            have c13b0 : decide (0 ≤ x6_1) = true := decide_eq_true c13
            clear c13
            by_cases c14 : x6_1 < (l0.length : Int)
            ·rw [if_pos c14] at H
             have c14b0 : decide (x6_1 < (l0.length : Int)) = true := decide_eq_true c14
             clear c14
             by_cases c15 : 0 ≤ x8_2
             ·rw [if_pos c15] at H
              have c15b0 : decide (0 ≤ x8_2) = true := decide_eq_true c15
              clear c15
              obtain ⟨y266,hy266⟩ : ∃ y_ : List Int,y_ = (x5_2.set ((ji10) : Int).toNat (Go.bits .and .u64 (IntKind.u64.wrap ((IntKind.u64.wrap ((rd x5_2 (ji10)) + (IntKind.u64.wrap ((rd l0 x6_1) * (rd l1 x8_2))))) + x7_2)) 65535)) := ⟨_,rfl⟩
              replace H : (r1_Product.l1 k2 l0 l1 y266 x6_1 ((IntKind.u64.wrap ((IntKind.u64.wrap ((rd x5_2 (ji10)) + (IntKind.u64.wrap ((rd l0 x6_1) * (rd l1 x8_2))))) + x7_2)) / 65536) (wrap64 (x8_2 + 1))) = some r := by first | (rw [hy266];with_reducible exact H) | (have H2_ := (Option.bind_some _ _).symm.trans H;rw [hy266];with_reducible exact H2_) | (have H2_ := (Option.bind_some _ _).symm.trans H;with_reducible exact H2_) | with_reducible exact H | (rw [hy266];exact H) | exact H
              have Ny266 := am hy266
              clear hy266
              have H' := am H
              clear H
              obtain ⟨Ao17,co17,eo17⟩ := Kd.zQB HO_5.out
              subst eo17
              have p263 : 0 ≤ ((ji10) : Int) := pD
              have q263 : (ji10) < (x5_2.length : Int) := pD
              obtain ⟨ad263,e263,hx263_0⟩ := Kd.zXe (Kd.zQh HO_5.out).2.2 (ji10) p263 q263
              cases e263
              replace p263 := eq_true p263
              replace q263 := eq_true q263
              have p264 : 0 ≤ (x6_1 : Int) := pD
              have q264 : x6_1 < (l0.length : Int) := pD
              obtain ⟨ad264,e264,hx264_0⟩ := Kd.zXe HR0.out x6_1 p264 q264
              cases e264
              replace hx264_0 := (HB.out.cell (World.block_lt_of_cell? w _ hx264_0)).trans hx264_0
              replace p264 := eq_true p264
              replace q264 := eq_true q264
              have p265 : 0 ≤ (x8_2 : Int) := pD
              have q265 : x8_2 < (l1.length : Int) := pD
              obtain ⟨ad265,e265,hx265_0⟩ := Kd.zXe HR1.out x8_2 p265 q265
              cases e265
              replace hx265_0 := (HB.out.cell (World.block_lt_of_cell? w _ hx265_0)).trans hx265_0
              replace p265 := eq_true p265
              replace q265 := eq_true q265
              have p16 : 0 ≤ ((ji10) : Int) := pD
              have q16 : ((ji10) : Int) < ((x5_2.length : Int) : Int) := pD
              obtain ⟨go16,co16,eo16,gb16,gl16,cl16,HG16⟩ := Kd.zWr HO_5.out (by omega)
              (first | cases eo16 | (injection eo16 with ea_ en_ ec_;(first | subst ea_ | (injection ea_ with ea_;subst ea_));subst ec_;clear en_))
              have GB16 := am gb16
              have GG16 := am HG16
              clear gb16 gl16 HG16
              (first | simp only [add_plain] at hx263_0 | skip)
              obtain ⟨hx16_0,hf16_0⟩ := Kd.zXR 0 HO_5.out ((ji10) : Int) p16 q16
              replace p16 := eq_true p16
              replace q16 := eq_true q16
              have HP18 := Kd.zYD HO_5.out ((ji10) : Int) (Go.bits .and .u64 (IntKind.u64.wrap ((IntKind.u64.wrap ((rd x5_2 (ji10)) + (IntKind.u64.wrap ((rd l0 x6_1) * (rd l1 x8_2))))) + x7_2)) 65535)
              go_wp2_with (first | ((with_reducible refine zXw (t := 22) (p := 54) rfl ?_);(try (rw [zXc wr];generalize hq_ : World.drewN wr _ = wr;replace HO_5 := am (Kd.R_at hq_ HO_5.out);replace HB := am (zYJ hq_ HB.out);clear hq_;(try have hcf_ := Kd.zXR 0 HO_5.out ((ji10) : Int) (of_eq_true p16) (of_eq_true q16));(try (have HP18 := Kd.zYD HO_5.out ((ji10) : Int) (Go.bits .and .u64 (IntKind.u64.wrap ((IntKind.u64.wrap ((rd x5_2 (ji10)) + (IntKind.u64.wrap ((rd l0 x6_1) * (rd l1 x8_2))))) + x7_2)) 65535)))));refine zXs (t := 22) (p := 54) (v := ?vo_w19) (w1 := (wr.setCell ⟨go16,((ji10) : Int).toNat,none⟩ (.int .u64 (Go.bits .and .u64 (IntKind.u64.wrap ((IntKind.u64.wrap ((rd x5_2 (ji10)) + (IntKind.u64.wrap ((rd l0 x6_1) * (rd l1 x8_2))))) + x7_2)) 65535)))) ?hg ?ho ?hn ?hr ?_;(case ho => rfl);(case hg => rfl);(case hn => rfl);(case hr => first | (go_simp;done) | (go_simp;rfl));intro w19 hw;have hg : wr.grownBy w19 (some go16) := (by rw [hw];exact HP18.2);have hp_ : Kd.R (Kd.int .u64) 22 w19 w.heap.size (fun _ => True) (.slice (some ⟨go16,0,none⟩) x5_2.length co17) y266 := (by rw [hw,Ny266.out];exact HP18.1);clear HP18;replace HO_5 := am (hp_);replace HB := am ((by rw [hw];exact zQS (HB.out) GB16.out : Below w.heap.size w w19));clear hg hw hp_))
              repeat (go_quiet (first | ((with_reducible refine zXw (t := 22) (p := 54) rfl ?_);(try (rw [zXc wr];generalize hq_ : World.drewN wr _ = wr;replace HO_5 := am (Kd.R_at hq_ HO_5.out);replace HB := am (zYJ hq_ HB.out);clear hq_;(try have hcf_ := Kd.zXR 0 HO_5.out ((ji10) : Int) (of_eq_true p16) (of_eq_true q16));(try (have HP18 := Kd.zYD HO_5.out ((ji10) : Int) (Go.bits .and .u64 (IntKind.u64.wrap ((IntKind.u64.wrap ((rd x5_2 (ji10)) + (IntKind.u64.wrap ((rd l0 x6_1) * (rd l1 x8_2))))) + x7_2)) 65535)))));refine zXs (t := 22) (p := 54) (v := ?vo_w19) (w1 := (wr.setCell ⟨go16,((ji10) : Int).toNat,none⟩ (.int .u64 (Go.bits .and .u64 (IntKind.u64.wrap ((IntKind.u64.wrap ((rd x5_2 (ji10)) + (IntKind.u64.wrap ((rd l0 x6_1) * (rd l1 x8_2))))) + x7_2)) 65535)))) ?hg ?ho ?hn ?hr ?_;(case ho => rfl);(case hg => rfl);(case hn => rfl);(case hr => first | (go_simp;done) | (go_simp;rfl));intro w19 hw;have hg : wr.grownBy w19 (some go16) := (by rw [hw];exact HP18.2);have hp_ : Kd.R (Kd.int .u64) 22 w19 w.heap.size (fun _ => True) (.slice (some ⟨go16,0,none⟩) x5_2.length co17) y266 := (by rw [hw,Ny266.out];exact HP18.1);clear HP18;replace HO_5 := am (hp_);replace HB := am ((by rw [hw];exact zQS (HB.out) GB16.out : Below w.heap.size w w19));clear hg hw hp_));try go_wp2_with (first | ((with_reducible refine zXw (t := 22) (p := 54) rfl ?_);(try (rw [zXc wr];generalize hq_ : World.drewN wr _ = wr;replace HO_5 := am (Kd.R_at hq_ HO_5.out);replace HB := am (zYJ hq_ HB.out);clear hq_;(try have hcf_ := Kd.zXR 0 HO_5.out ((ji10) : Int) (of_eq_true p16) (of_eq_true q16));(try (have HP18 := Kd.zYD HO_5.out ((ji10) : Int) (Go.bits .and .u64 (IntKind.u64.wrap ((IntKind.u64.wrap ((rd x5_2 (ji10)) + (IntKind.u64.wrap ((rd l0 x6_1) * (rd l1 x8_2))))) + x7_2)) 65535)))));refine zXs (t := 22) (p := 54) (v := ?vo_w19) (w1 := (wr.setCell ⟨go16,((ji10) : Int).toNat,none⟩ (.int .u64 (Go.bits .and .u64 (IntKind.u64.wrap ((IntKind.u64.wrap ((rd x5_2 (ji10)) + (IntKind.u64.wrap ((rd l0 x6_1) * (rd l1 x8_2))))) + x7_2)) 65535)))) ?hg ?ho ?hn ?hr ?_;(case ho => rfl);(case hg => rfl);(case hn => rfl);(case hr => first | (go_simp;done) | (go_simp;rfl));intro w19 hw;have hg : wr.grownBy w19 (some go16) := (by rw [hw];exact HP18.2);have hp_ : Kd.R (Kd.int .u64) 22 w19 w.heap.size (fun _ => True) (.slice (some ⟨go16,0,none⟩) x5_2.length co17) y266 := (by rw [hw,Ny266.out];exact HP18.1);clear HP18;replace HO_5 := am (hp_);replace HB := am ((by rw [hw];exact zQS (HB.out) GB16.out : Below w.heap.size w w19));clear hg hw hp_)))
              go_roundg k2
              case measure => have := HK1.out;have := HK2.out;omega
              case rel => exact ⟨(y266),((IntKind.u64.wrap ((IntKind.u64.wrap ((rd x5_2 (ji10)) + (IntKind.u64.wrap ((rd l0 x6_1) * (rd l1 x8_2))))) + x7_2)) / 65536),(wrap64 (x8_2 + 1)),(by first | rfl | (simp;done) | (simp only [← hji10] <;> (first | rfl | simp)) | (simp [*];done)),(by first | rfl | (simp;done) | (simp [*];done)),H',⟨by have := HK1.out;have := HK2.out;omega⟩,⟨by (with_reducible repeat (first | apply Kd.zQw | apply Kd.zQu | apply Kd.zQx));exact HO_5.out⟩,⟨pB⟩⟩
             ·rw [if_neg c15] at H
              exact absurd H (by simp)
            ·rw [if_neg c14] at H
             exact absurd H (by simp)
           ·rw [if_neg c13] at H
            exact absurd H (by simp)
          ·rw [if_neg c12] at H
           exact absurd H (by simp)
         ·rw [if_neg c11] at H
          exact absurd H (by simp)
        ·rw [if_neg c9] at H
         have c9b0 : decide (x8_2 < (l1.length : Int)) = false := decide_eq_false c9
         clear c9
         obtain ⟨ji20,hji20⟩ : ∃ j_ : Int,(wrap64 (x6_1 + (l1.length : Int))) = j_ := ⟨_,rfl⟩
         replace H : (if 0 ≤ (ji20) then (if (ji20) < (x5_2.length : Int) then (r1_Product.l0 k2 l0 l1 (x5_2.set ((ji20) : Int).toNat x7_2) (wrap64 (x6_1 + 1))) else (none)) else (none)) = some r := by first | (rw [hji20] at H;exact H) | (simp only [hji20] at H ⊢;exact H)
         have hji20w : (IntKind.i64.wrap (x6_1 + (l1.length : Int))) = ji20 := (i64_w _).trans hji20
         by_cases c21 : 0 ≤ (ji20)
         ·rw [if_pos c21] at H
          have c21b0 : decide (0 ≤ (ji20)) = true := decide_eq_true c21
          clear c21
          by_cases c22 : (ji20) < (x5_2.length : Int)
          ·rw [if_pos c22] at H
           have c22b0 : decide ((ji20) < (x5_2.length : Int)) = true := decide_eq_true c22
           clear c22
           obtain ⟨y267,hy267⟩ : ∃ y_ : List Int,y_ = (x5_2.set ((ji20) : Int).toNat x7_2) := ⟨_,rfl⟩
           replace H : (r1_Product.l0 k2 l0 l1 y267 (wrap64 (x6_1 + 1))) = some r := by first | (rw [hy267];with_reducible exact H) | (have H2_ := (Option.bind_some _ _).symm.trans H;rw [hy267];with_reducible exact H2_) | (have H2_ := (Option.bind_some _ _).symm.trans H;with_reducible exact H2_) | with_reducible exact H | (rw [hy267];exact H) | exact H
           have Ny267 := am hy267
           clear hy267
           have H' := am H
           clear H
           have p23 : 0 ≤ ((ji20) : Int) := pD
           have q23 : ((ji20) : Int) < ((x5_2.length : Int) : Int) := pD
           obtain ⟨go23,co23,eo23,gb23,gl23,cl23,HG23⟩ := Kd.zWr HO_5.out (by omega)
           (first | cases eo23 | (injection eo23 with ea_ en_ ec_;(first | subst ea_ | (injection ea_ with ea_;subst ea_));subst ec_;clear en_))
           have GB23 := am gb23
           have GG23 := am HG23
           clear gb23 gl23 HG23
           obtain ⟨hx23_0,hf23_0⟩ := Kd.zXR 0 HO_5.out ((ji20) : Int) p23 q23
           replace p23 := eq_true p23
           replace q23 := eq_true q23
           have HP24 := Kd.zYD HO_5.out ((ji20) : Int) x7_2
           go_wp2_with (first | ((with_reducible refine zXw (t := 22) (p := 61) rfl ?_);(try (rw [zXc wr];generalize hq_ : World.drewN wr _ = wr;replace HO_5 := am (Kd.R_at hq_ HO_5.out);replace HB := am (zYJ hq_ HB.out);clear hq_;(try have hcf_ := Kd.zXR 0 HO_5.out ((ji20) : Int) (of_eq_true p23) (of_eq_true q23));(try (have HP24 := Kd.zYD HO_5.out ((ji20) : Int) x7_2))));refine zXs (t := 22) (p := 61) (v := ?vo_w25) (w1 := (wr.setCell ⟨go23,((ji20) : Int).toNat,none⟩ (.int .u64 x7_2))) ?hg ?ho ?hn ?hr ?_;(case ho => rfl);(case hg => rfl);(case hn => rfl);(case hr => first | (go_simp;done) | (go_simp;rfl));intro w25 hw;have hg : wr.grownBy w25 (some go23) := (by rw [hw];exact HP24.2);have hp_ : Kd.R (Kd.int .u64) 22 w25 w.heap.size (fun _ => True) (.slice (some ⟨go23,0,none⟩) x5_2.length co23) y267 := (by rw [hw,Ny267.out];exact HP24.1);clear HP24;replace HO_5 := am (hp_);replace HB := am ((by rw [hw];exact zQS (HB.out) GB23.out : Below w.heap.size w w25));clear hg hw hp_))
           repeat (go_quiet (first | ((with_reducible refine zXw (t := 22) (p := 61) rfl ?_);(try (rw [zXc wr];generalize hq_ : World.drewN wr _ = wr;replace HO_5 := am (Kd.R_at hq_ HO_5.out);replace HB := am (zYJ hq_ HB.out);clear hq_;(try have hcf_ := Kd.zXR 0 HO_5.out ((ji20) : Int) (of_eq_true p23) (of_eq_true q23));(try (have HP24 := Kd.zYD HO_5.out ((ji20) : Int) x7_2))));refine zXs (t := 22) (p := 61) (v := ?vo_w25) (w1 := (wr.setCell ⟨go23,((ji20) : Int).toNat,none⟩ (.int .u64 x7_2))) ?hg ?ho ?hn ?hr ?_;(case ho => rfl);(case hg => rfl);(case hn => rfl);(case hr => first | (go_simp;done) | (go_simp;rfl));intro w25 hw;have hg : wr.grownBy w25 (some go23) := (by rw [hw];exact HP24.2);have hp_ : Kd.R (Kd.int .u64) 22 w25 w.heap.size (fun _ => True) (.slice (some ⟨go23,0,none⟩) x5_2.length co23) y267 := (by rw [hw,Ny267.out];exact HP24.1);clear HP24;replace HO_5 := am (hp_);replace HB := am ((by rw [hw];exact zQS (HB.out) GB23.out : Below w.heap.size w w25));clear hg hw hp_));try go_wp2_with (first | ((with_reducible refine zXw (t := 22) (p := 61) rfl ?_);(try (rw [zXc wr];generalize hq_ : World.drewN wr _ = wr;replace HO_5 := am (Kd.R_at hq_ HO_5.out);replace HB := am (zYJ hq_ HB.out);clear hq_;(try have hcf_ := Kd.zXR 0 HO_5.out ((ji20) : Int) (of_eq_true p23) (of_eq_true q23));(try (have HP24 := Kd.zYD HO_5.out ((ji20) : Int) x7_2))));refine zXs (t := 22) (p := 61) (v := ?vo_w25) (w1 := (wr.setCell ⟨go23,((ji20) : Int).toNat,none⟩ (.int .u64 x7_2))) ?hg ?ho ?hn ?hr ?_;(case ho => rfl);(case hg => rfl);(case hn => rfl);(case hr => first | (go_simp;done) | (go_simp;rfl));intro w25 hw;have hg : wr.grownBy w25 (some go23) := (by rw [hw];exact HP24.2);have hp_ : Kd.R (Kd.int .u64) 22 w25 w.heap.size (fun _ => True) (.slice (some ⟨go23,0,none⟩) x5_2.length co23) y267 := (by rw [hw,Ny267.out];exact HP24.1);clear HP24;replace HO_5 := am (hp_);replace HB := am ((by rw [hw];exact zQS (HB.out) GB23.out : Below w.heap.size w w25));clear hg hw hp_)))
           go_roundg k2
           case measure => have := HK1.out;have := HK2.out;omega
           case rel => exact ⟨(y267),(wrap64 (x6_1 + 1)),(by first | rfl | (simp;done) | (simp [*];done)),H',⟨by have := HK1.out;have := HK2.out;omega⟩,⟨by (with_reducible repeat (first | apply Kd.zQw | apply Kd.zQu | apply Kd.zQx));exact HO_5.out⟩,⟨pB⟩⟩
          ·rw [if_neg c22] at H
           exact absurd H (by simp)
         ·rw [if_neg c21] at H
          exact absurd H (by simp)
     ·rw [if_neg c8] at H
      have c8b0 : decide (x6_1 < (l0.length : Int)) = false := decide_eq_false c8
      clear c8
      replace H := Option.bind_eq_some_iff.mp H
      obtain ⟨t260,A260,H⟩ := H
      try dsimp only at H
      have A26 := am A260
      clear A260
      obtain rfl := Option.some.inj H
      obtain ⟨Ao27,co27,eo27⟩ := Kd.zQB HO_5.out
      subst eo27
      go_wp2_with (first | (go_at_call 65;(with_reducible refine (r1_Trim.calls k1 _ _ x5_1 t260 _ ?side1 ?side2 A26.out).mono ?_);(case side1 => repeat (first | exact (Kd.zQh HO_5.out).2.2 | (with_reducible refine Kd.zQj ?_ _) | (with_reducible refine Kd.zQi ?_ _) | (with_reducible refine Kd.zQv ?_)));(case side2 => exact (Kd.zQh HO_5.out).2.1);rintro e w28 ⟨v261,rfl,ho0,hb⟩;have HO262 := am (Kd.zQy (Kd.zQC ho0 (Kd.R_lt (pR HO_5.out))) (zQc pB));replace HO_5 := am (Kd.zQt (pR HO_5.out) (Kd.zQs ho0) hb);replace HB := am (zQf pB hb);(try clear hb);(try clear ho0)))
      repeat (go_quiet (first | (go_at_call 65;(with_reducible refine (r1_Trim.calls k1 _ _ x5_1 t260 _ ?side1 ?side2 A26.out).mono ?_);(case side1 => repeat (first | exact (Kd.zQh HO_5.out).2.2 | (with_reducible refine Kd.zQj ?_ _) | (with_reducible refine Kd.zQi ?_ _) | (with_reducible refine Kd.zQv ?_)));(case side2 => exact (Kd.zQh HO_5.out).2.1);rintro e w28 ⟨v261,rfl,ho0,hb⟩;have HO262 := am (Kd.zQy (Kd.zQC ho0 (Kd.R_lt (pR HO_5.out))) (zQc pB));replace HO_5 := am (Kd.zQt (pR HO_5.out) (Kd.zQs ho0) hb);replace HB := am (zQf pB hb);(try clear hb);(try clear ho0)));try go_wp2_with (first | (go_at_call 65;(with_reducible refine (r1_Trim.calls k1 _ _ x5_1 t260 _ ?side1 ?side2 A26.out).mono ?_);(case side1 => repeat (first | exact (Kd.zQh HO_5.out).2.2 | (with_reducible refine Kd.zQj ?_ _) | (with_reducible refine Kd.zQi ?_ _) | (with_reducible refine Kd.zQv ?_)));(case side2 => exact (Kd.zQh HO_5.out).2.1);rintro e w28 ⟨v261,rfl,ho0,hb⟩;have HO262 := am (Kd.zQy (Kd.zQC ho0 (Kd.R_lt (pR HO_5.out))) (zQc pB));replace HO_5 := am (Kd.zQt (pR HO_5.out) (Kd.zQs ho0) hb);replace HB := am (zQf pB hb);(try clear hb);(try clear ho0))))
      go_ret
      exact ⟨_,by first | rfl | (simp [zQq,zQp] <;> rfl) | (simp only [← hji3];first | rfl | (simp [zQq,zQp] <;> rfl)) | (simp [*,zQq,zQp] <;> rfl),by (with_reducible repeat (first | apply Kd.zQw | apply Kd.zQu | apply Kd.zQx));exact Kd.zQE HO262.out (fun _ hk => trivial),pB⟩
  ·rw [if_neg c5] at H
   exact absurd H (by simp)
 ·rw [if_neg c4] at H
  exact absurd H (by simp)
def r1_most.f (l0 : List Int) (l1 : List Int) : Option (Int) := if (l0.length : Int) > (l1.length : Int) then (some (l0.length : Int)) else (some (l1.length : Int))
set_option maxHeartbeats 8000000 in
set_option maxRecDepth 100000 in
theorem r1_most.calls (A0 : Option Addr) (c0 : Nat) (l0 : List Int) (A1 : Option Addr) (c1 : Nat) (l1 : List Int) (r : Int) (w : World) (hr0 : Kd.C (Kd.int .u64) w A0 l0.length l0) (hc0 : l0.length ≤ c0) (hr1 : Kd.C (Kd.int .u64) w A1 l1.length l1) (hc1 : l1.length ≤ c1) (h : r1_most.f l0 l1 = some r) :
  Calls Tryz.prog 80 #[.slice A0 l0.length c0,.slice A1 l1.length c1] w fun e w' => e = .returned (.int .i64 r) ∧ Drawn0 w w' := by
 have HR0 := am hr0
 have HC0 := am hc0
 clear hr0 hc0
 have HR1 := am hr1
 have HC1 := am hc1
 clear hr1 hc1
 have H : (if (l0.length : Int) > (l1.length : Int) then (some (l0.length : Int)) else (some (l1.length : Int))) = some r := h
 clear h
 by_cases c3 : (l0.length : Int) > (l1.length : Int)
 ·rw [if_pos c3] at H
  have c3b0 : decide ((l1.length : Int) < (l0.length : Int)) = true := decide_eq_true c3
  have c3b1 : decide (l1.length < l0.length) = true := decide_eq_true (Int.ofNat_lt.mp c3)
  clear c3
  obtain rfl := Option.some.inj H
  go_enter Tryz.func80,Tryz.ntmps80
  go_wp2
  go_ret
  exact ⟨by first | rfl | (simp;done) | (simp [*];done),by repeat (first | exact Drawn0.refl _ | apply Drawn0.step)⟩
 ·rw [if_neg c3] at H
  have c3b0 : decide ((l1.length : Int) < (l0.length : Int)) = false := decide_eq_false c3
  have c3b1 : decide (l1.length < l0.length) = false := decide_eq_false (fun h => c3 (Int.ofNat_lt.mpr h))
  clear c3
  obtain rfl := Option.some.inj H
  go_enter Tryz.func80,Tryz.ntmps80
  go_wp2
  go_ret
  exact ⟨by first | rfl | (simp;done) | (simp [*];done),by repeat (first | exact Drawn0.refl _ | apply Drawn0.step)⟩
def r1_at.f (l0 : List Int) (a1 : Int) : Option (Int) := if a1 < (l0.length : Int) then (if 0 ≤ a1 then (some (rd l0 a1)) else (none)) else (some 0)
set_option maxHeartbeats 8000000 in
set_option maxRecDepth 100000 in
theorem r1_at.calls (A0 : Option Addr) (c0 : Nat) (l0 : List Int) (a1 : Int) (r : Int) (w : World) (hr0 : Kd.C (Kd.int .u64) w A0 l0.length l0) (hc0 : l0.length ≤ c0) (h : r1_at.f l0 a1 = some r) :
  Calls Tryz.prog 81 #[.slice A0 l0.length c0,.int .i64 a1] w fun e w' => e = .returned (.int .u64 r) ∧ Drawn0 w w' := by
 have HR0 := am hr0
 have HC0 := am hc0
 clear hr0 hc0
 have H : (if a1 < (l0.length : Int) then (if 0 ≤ a1 then (some (rd l0 a1)) else (none)) else (some 0)) = some r := h
 clear h
 by_cases c3 : a1 < (l0.length : Int)
 ·rw [if_pos c3] at H
  have c3b0 : decide (a1 < (l0.length : Int)) = true := decide_eq_true c3
  clear c3
  by_cases c4 : 0 ≤ a1
  ·rw [if_pos c4] at H
   have c4b0 : decide (0 ≤ a1) = true := decide_eq_true c4
   clear c4
   obtain rfl := Option.some.inj H
   have p268 : 0 ≤ (a1 : Int) := pD
   have q268 : a1 < (l0.length : Int) := pD
   obtain ⟨ad268,e268,hx268_0⟩ := Kd.zXe HR0.out a1 p268 q268
   cases e268
   replace p268 := eq_true p268
   replace q268 := eq_true q268
   go_enter Tryz.func81,Tryz.ntmps81
   go_wp2
   go_ret
   exact ⟨by first | rfl | (simp;done) | (simp [*];done),by repeat (first | exact Drawn0.refl _ | apply Drawn0.step)⟩
  ·rw [if_neg c4] at H
   exact absurd H (by simp)
 ·rw [if_neg c3] at H
  have c3b0 : decide (a1 < (l0.length : Int)) = false := decide_eq_false c3
  clear c3
  obtain rfl := Option.some.inj H
  go_enter Tryz.func81,Tryz.ntmps81
  go_wp2
  go_ret
  exact ⟨by first | rfl | (simp;done) | (simp [*];done),by repeat (first | exact Drawn0.refl _ | apply Drawn0.step)⟩
def r1_Sum.l0 : Nat → List Int → List Int → List Int → Int → Int → Option (List Int)
 | 0,_,_,_,_,_ => none
 | k + 1,x0,x1,x5,x6,x7 => (r1_most.f x0 x1).bind fun t272 => (if x7 < t272 then ((r1_at.f x0 x7).bind fun t273 => ((r1_at.f x1 x7).bind fun t274 => (if x5.length < 17592186044416 then (r1_Sum.l0 k x0 x1 (x5 ++ [Go.bits .and .u64 (IntKind.u64.wrap ((IntKind.u64.wrap (t273 + t274)) + x6)) 65535]) ((IntKind.u64.wrap ((IntKind.u64.wrap (t273 + t274)) + x6)) / 65536) (wrap64 (x7 + 1))) else (none)))) else (if x5.length < 17592186044416 then ((r1_Trim.f k (x5 ++ [x6])).bind fun t281 => (some t281)) else (none)))
def r1_Sum.f (k : Nat) (l0 : List Int) (l1 : List Int) : Option (List Int) := r1_Sum.l0 k l0 l1 (([] : List Int)) 0 0
set_option maxHeartbeats 8000000 in
set_option maxRecDepth 100000 in
theorem r1_Sum.calls (k : Nat) (A0 : Option Addr) (c0 : Nat) (l0 : List Int) (A1 : Option Addr) (c1 : Nat) (l1 : List Int) (r : List Int) (w : World) (hr0 : Kd.C (Kd.int .u64) w A0 l0.length l0) (hc0 : l0.length ≤ c0) (hr1 : Kd.C (Kd.int .u64) w A1 l1.length l1) (hc1 : l1.length ≤ c1) (h : r1_Sum.f k l0 l1 = some r) :
  Calls Tryz.prog 51 #[.slice A0 l0.length c0,.slice A1 l1.length c1] w fun e w' => ∃ v0_ : Value,e = .returned (v0_) ∧ Kd.R (Kd.int .u64) 22 w' w.heap.size (fun _ => True) v0_ r ∧ Below w.heap.size w w' := by
 have HR0 := am hr0
 have HC0 := am hc0
 clear hr0 hc0
 have HR1 := am hr1
 have HC1 := am hc1
 clear hr1 hc1
 have HB := am (Below.refl w.heap.size w)
 have H : (r1_Sum.l0 k l0 l1 (([] : List Int)) 0 0) = some r := h
 clear h
 obtain ⟨y269,hy269⟩ : ∃ y_ : List Int,y_ = (([] : List Int)) := ⟨_,rfl⟩
 replace H : (r1_Sum.l0 k l0 l1 y269 0 0) = some r := by first | (rw [hy269];with_reducible exact H) | (have H2_ := (Option.bind_some _ _).symm.trans H;rw [hy269];with_reducible exact H2_) | (have H2_ := (Option.bind_some _ _).symm.trans H;with_reducible exact H2_) | with_reducible exact H | (rw [hy269];exact H) | exact H
 have Ny269 := am hy269
 clear hy269
 have H' := am H
 clear H
 go_enter Tryz.func51,Tryz.ntmps51
 go_wp2_with (first | ((with_reducible refine zQJ (N := 9) rfl ?_);refine Kd.R_lit (Kd.int .u64) _ 22 ?hg (N := 9) ?hd (xs := ([] : List Int)) (inner := []) (ok := fun _ => True) (okp := fun _ => True) ?hr ?hp (fun _ hk => hk) trivial (Below.refl _ _) (Nat.le_refl _) (by simp) ?_;(case hd => rfl);(case hg => rfl);(case hr => first | (go_simp;done) | (go_simp;rfl));(case hp => exact (Reps.none _ _));intro v270 w3 ho4 hb hg_ hnew_;clear hg_ hnew_;(first | rw [← Ny269.out] at ho4 | (simp only [Int.reduceToNat] at ho4;rw [← Ny269.out] at ho4));have HO271 := am (Kd.zQy ho4 (zQc pB));replace HB := am (zQf pB hb);clear hb ho4))
 go_loopg [5,6,7] k (fun kq v5 v6 v7 w' => ∃ (x5_1 : List Int) (x6_1 : Int) (x7_1 : Int),v6 = .int .u64 x6_1 ∧ v7 = .int .i64 x7_1 ∧ Aside0 (r1_Sum.l0 kq l0 l1 x5_1 x6_1 x7_1 = some r) ∧ Aside0 (kq ≤ k) ∧ Aside0 (Kd.R (Kd.int .u64) 22 w' w.heap.size (fun _ => True) v5 x5_1) ∧ Aside0 (Below w.heap.size w w'))
 case atStart => exact ⟨(y269),(0),(0),(by first | rfl | (simp;done) | (simp [*];done)),(by first | rfl | (simp;done) | (simp [*];done)),H',⟨Nat.le_refl _⟩,⟨by (with_reducible repeat (first | apply Kd.zQw | apply Kd.zQu | apply Kd.zQx));exact HO271.out⟩,⟨pB⟩⟩
 case round =>
  clear H'
  try clear c1
  try clear p2
  obtain ⟨x5_1,x6_1,x7_1,rfl,rfl,HA,HK1,HO_5,HB⟩ := hrel
  cases gk with
  | zero => exact absurd HA.out (by simp [r1_Sum.l0])
  | succ k1 =>
   have H := HA.out
   clear HA
   simp only [r1_Sum.l0] at H
   replace H := Option.bind_eq_some_iff.mp H
   obtain ⟨t272,A50,H⟩ := H
   try dsimp only at H
   have A5 := am A50
   clear A50
   by_cases c6 : x7_1 < t272
   ·rw [if_pos c6] at H
    have c6b0 : decide (x7_1 < t272) = true := decide_eq_true c6
    clear c6
    replace H := Option.bind_eq_some_iff.mp H
    obtain ⟨t273,A70,H⟩ := H
    try dsimp only at H
    have A7 := am A70
    clear A70
    replace H := Option.bind_eq_some_iff.mp H
    obtain ⟨t274,A80,H⟩ := H
    try dsimp only at H
    have A8 := am A80
    clear A80
    by_cases c9 : x5_1.length < 17592186044416
    ·rw [if_pos c9] at H
     have LMc9 := am c9
     clear c9
     obtain ⟨y275,hy275⟩ : ∃ y_ : List Int,y_ = (x5_1 ++ [Go.bits .and .u64 (IntKind.u64.wrap ((IntKind.u64.wrap (t273 + t274)) + x6_1)) 65535]) := ⟨_,rfl⟩
     replace H : (r1_Sum.l0 k1 l0 l1 y275 ((IntKind.u64.wrap ((IntKind.u64.wrap (t273 + t274)) + x6_1)) / 65536) (wrap64 (x7_1 + 1))) = some r := by first | (rw [hy275];with_reducible exact H) | (have H2_ := (Option.bind_some _ _).symm.trans H;rw [hy275];with_reducible exact H2_) | (have H2_ := (Option.bind_some _ _).symm.trans H;with_reducible exact H2_) | with_reducible exact H | (rw [hy275];exact H) | exact H
     have Ny275 := am hy275
     clear hy275
     have H' := am H
     clear H
     go_wp2_with (first | ((with_reducible refine zQe (f := 80) rfl ?_);refine zQr (some 13) rfl rfl Tryz.func80 (by kernel_rfl) rfl #[.slice A0 l0.length c0,.slice A1 l1.length c1] rfl pM ?_;(with_reducible refine (r1_most.calls _ _ l0 _ _ l1 t272 _ ?side1 ?side2 ?side3 ?side4 A5.out).mono ?_);(case side1 => exact pC (Kd.zQO HR0.out HB.out));(case side2 => exact HC0.out);(case side3 => exact pC (Kd.zQO HR1.out HB.out));(case side4 => exact HC1.out);rintro e w' ⟨rfl,⟨nd,rfl⟩⟩;refine ⟨_,rfl,?_⟩) | ((with_reducible refine zQe (f := 81) rfl ?_);refine zQr (some 19) rfl rfl Tryz.func81 (by kernel_rfl) rfl #[.slice A0 l0.length c0,.int .i64 x7_1] rfl pM ?_;(with_reducible refine (r1_at.calls _ _ l0 x7_1 t273 _ ?side1 ?side2 A7.out).mono ?_);(case side1 => repeat (first | exact (Kd.zQO HR0.out pB) | (with_reducible refine Kd.zQj ?_ _) | (with_reducible refine Kd.zQi ?_ _) | (with_reducible refine Kd.zQv ?_)));(case side2 => exact HC0.out);rintro e w' ⟨rfl,⟨nd,rfl⟩⟩;refine ⟨_,rfl,?_⟩) | ((with_reducible refine zQe (f := 81) rfl ?_);refine zQr (some 22) rfl rfl Tryz.func81 (by kernel_rfl) rfl #[.slice A1 l1.length c1,.int .i64 x7_1] rfl pM ?_;(with_reducible refine (r1_at.calls _ _ l1 x7_1 t274 _ ?side1 ?side2 A8.out).mono ?_);(case side1 => repeat (first | exact (Kd.zQO HR1.out pB) | (with_reducible refine Kd.zQj ?_ _) | (with_reducible refine Kd.zQi ?_ _) | (with_reducible refine Kd.zQv ?_)));(case side2 => exact HC1.out);rintro e w' ⟨rfl,⟨nd,rfl⟩⟩;refine ⟨_,rfl,?_⟩) | ((with_reducible refine zQD (b := .append) (xs := #[.tmp 26,.tmp 29]) rfl ?_);at_builtin;refine Kd.zQU (Kd.int .u64) (w0 := w) w.heap.size rfl (.tmp 26) (.tmp 29) 59 22 (.int .u64 0) 8 rfl Tryz.underlying59 zXP rfl (by decide) (by omega) u5 x5_1 (Go.bits .and .u64 (IntKind.u64.wrap ((IntKind.u64.wrap (t273 + t274)) + x6_1)) 65535) [.int .u64 (Go.bits .and .u64 (IntKind.u64.wrap ((IntKind.u64.wrap (t273 + t274)) + x6_1)) 65535)] (fun _ => True) (fun _ => False) rfl rfl ?aP (fun _ hk => hk.elim) ?aF ?aO ?aB ?aS ?aL ?_;(case aP => exact rfl);(case aB => exact pB);(case aF => exact (fun _ _ => trivial));(case aO => exact (pR HO_5.out));(case aS => exact (zQc pB));(case aL => have := LMc9.out;omega);intro v276 w10 ho hb hg hat;rw [← Ny275.out] at ho;replace HB := am (hb);have HO277 := am (ho);clear HO_5;clear ho hb hg hat))
     go_roundg k1
     case measure => have := HK1.out;omega
     case rel => exact ⟨(y275),((IntKind.u64.wrap ((IntKind.u64.wrap (t273 + t274)) + x6_1)) / 65536),(wrap64 (x7_1 + 1)),(by first | rfl | (simp;done) | (simp [*];done)),(by first | rfl | (simp;done) | (simp [*];done)),H',⟨by have := HK1.out;omega⟩,⟨by (with_reducible repeat (first | apply Kd.zQw | apply Kd.zQu | apply Kd.zQx));exact HO277.out⟩,⟨pB⟩⟩
    ·rw [if_neg c9] at H
     exact absurd H (by simp)
   ·rw [if_neg c6] at H
    have c6b0 : decide (x7_1 < t272) = false := decide_eq_false c6
    clear c6
    by_cases c11 : x5_1.length < 17592186044416
    ·rw [if_pos c11] at H
     have LMc11 := am c11
     clear c11
     obtain ⟨y278,hy278⟩ : ∃ y_ : List Int,y_ = (x5_1 ++ [x6_1]) := ⟨_,rfl⟩
     replace H : ((r1_Trim.f k1 y278).bind fun t281 => (some t281)) = some r := by first | (rw [hy278];with_reducible exact H) | (have H2_ := (Option.bind_some _ _).symm.trans H;rw [hy278];with_reducible exact H2_) | (have H2_ := (Option.bind_some _ _).symm.trans H;with_reducible exact H2_) | with_reducible exact H | (rw [hy278];exact H) | exact H
     have Ny278 := am hy278
     clear hy278
     replace H := Option.bind_eq_some_iff.mp H
     obtain ⟨t281,A120,H⟩ := H
     try dsimp only at H
     have A12 := am A120
     clear A120
     obtain rfl := Option.some.inj H
     go_wp2_with (first | ((with_reducible refine zQe (f := 80) rfl ?_);refine zQr (some 13) rfl rfl Tryz.func80 (by kernel_rfl) rfl #[.slice A0 l0.length c0,.slice A1 l1.length c1] rfl pM ?_;(with_reducible refine (r1_most.calls _ _ l0 _ _ l1 t272 _ ?side1 ?side2 ?side3 ?side4 A5.out).mono ?_);(case side1 => exact pC (Kd.zQO HR0.out HB.out));(case side2 => exact HC0.out);(case side3 => exact pC (Kd.zQO HR1.out HB.out));(case side4 => exact HC1.out);rintro e w' ⟨rfl,⟨nd,rfl⟩⟩;refine ⟨_,rfl,?_⟩) | ((with_reducible refine zQD (b := .append) (xs := #[.tmp 33,.tmp 35]) rfl ?_);at_builtin;refine Kd.zQU (Kd.int .u64) (w0 := w) w.heap.size rfl (.tmp 33) (.tmp 35) 59 22 (.int .u64 0) 8 rfl Tryz.underlying59 zXP rfl (by decide) (by omega) u5 x5_1 x6_1 [.int .u64 x6_1] (fun _ => True) (fun _ => False) rfl rfl ?aP (fun _ hk => hk.elim) ?aF ?aO ?aB ?aS ?aL ?_;(case aP => exact rfl);(case aB => exact pB);(case aF => exact (fun _ _ => trivial));(case aO => exact (pR HO_5.out));(case aS => exact (zQc pB));(case aL => have := LMc11.out;omega);intro v279 w13 ho hb hg hat;rw [← Ny278.out] at ho;replace HB := am (hb);have HO280 := am (ho);clear HO_5;clear ho hb hg hat;obtain ⟨Ao14,co14,eo14⟩ := Kd.zQB HO280.out;subst eo14) | ((with_reducible refine zQe (f := 65) rfl ?_);refine zQr (some 37) rfl rfl Tryz.func65 (by kernel_rfl) rfl #[.slice Ao14 y278.length co14] rfl pM ?_;(with_reducible refine (r1_Trim.calls k1 _ _ y278 t281 _ ?side1 ?side2 A12.out).mono ?_);(case side1 => repeat (first | exact (Kd.zQh HO280.out).2.2 | (with_reducible refine Kd.zQj ?_ _) | (with_reducible refine Kd.zQi ?_ _) | (with_reducible refine Kd.zQv ?_)));(case side2 => exact (Kd.zQh HO280.out).2.1);rintro e w15 ⟨v282,rfl,ho0,hb⟩;refine ⟨_,rfl,?_⟩;have HO283 := am (Kd.zQy (Kd.zQC ho0 (Kd.R_lt (pR HO280.out))) (zQc pB));replace HO280 := am (Kd.zQt (pR HO280.out) (Kd.zQs ho0) hb);replace HB := am (zQf pB hb);(try clear hb);(try clear ho0)))
     go_ret
     exact ⟨_,pE,by (with_reducible repeat (first | apply Kd.zQw | apply Kd.zQu | apply Kd.zQx));exact Kd.zQE HO283.out (fun _ hk => trivial),pB⟩
    ·rw [if_neg c11] at H
     exact absurd H (by simp)
end Go.Proofs.YtflcanpajgpghaaGreatDoor.Pr
end
section
namespace Go.Proofs.YtflcanpajgpghaaGreatDoor.Pr
open Go.RowKit Go.Proofs.YtflcanpajgpghaaGreatDoorW.PrintWords Go.Proofs.YtflcanpajgpghaaGreatDoorW.PrintLast Go.Proofs.YtflcanpajgpghaaGreatDoorW.PrintMore
attribute [local go_sem] zXm zXk zXy zXx zXa zQZ zXl zXj
def r5_Whole.l0 : Nat → ByteArray → List Int → Int → Option (List Int)
 | 0,_,_,_ => none
 | k + 1,x0,x3,x4 => if x4 < (x0.size : Int) then ((r1_Product.f k x3 (([10] : List Int))).bind fun t290 => (if 0 ≤ x4 then ((r1_Sum.f k t290 (([((bt x0 x4) - 48) % 256] : List Int))).bind fun t296 => (r5_Whole.l0 k x0 t296 (wrap64 (x4 + 1)))) else (none))) else (some x3)
def r5_Whole.f (k : Nat) (a0 : ByteArray) : Option (List Int) := r5_Whole.l0 k a0 (([] : List Int)) 0
def r5_Whole.T5 : Bool × List (List Nat × List Nat) := (true,[([],[]),([],[]),([0,1],[0,1]),([],[]),([],[]),([3,4],[3,4]),([5],[5]),([6],[6]),([7],[7]),([2,8,2],[2,8]),([9,9,0,1,2,3,4,5,6,7,8,9],[0,9])])
def r5_Whole.B5 : List Nat := [0,0,3,0,0,24,56,120,248,511,1023]
theorem r5_Whole.tab5 : rtab .any (opsOf Tryz.f31 5) = r5_Whole.T5 := by kernel_rfl
theorem r5_Whole.bits5 : zXL r5_Whole.T5.2 r5_Whole.B5 = true := by kernel_rfl
set_option maxHeartbeats 8000000 in
set_option maxRecDepth 100000 in
theorem r5_Whole.calls (k : Nat) (a0 : ByteArray) (r : List Int) (w : World) (h : r5_Whole.f k a0 = some r) :
  Calls Tryz.prog 31 #[.string a0] w fun e w' => ∃ v0_ : Value,e = .returned (v0_) ∧ Kd.R (Kd.int .u64) 22 w' w.heap.size (fun _ => True) v0_ r ∧ Below w.heap.size w w' := by
 have HB := am (Below.refl w.heap.size w)
 have H : (r5_Whole.l0 k a0 (([] : List Int)) 0) = some r := h
 clear h
 obtain ⟨y284,hy284⟩ : ∃ y_ : List Int,y_ = (([] : List Int)) := ⟨_,rfl⟩
 replace H : (r5_Whole.l0 k a0 y284 0) = some r := by first | (rw [hy284];with_reducible exact H) | (have H2_ := (Option.bind_some _ _).symm.trans H;rw [hy284];with_reducible exact H2_) | (have H2_ := (Option.bind_some _ _).symm.trans H;with_reducible exact H2_) | with_reducible exact H | (rw [hy284];exact H) | exact H
 have Ny284 := am hy284
 clear hy284
 have H' := am H
 clear H
 go_enter Tryz.func31,Tryz.ntmps31
 go_wp2_with (first | ((with_reducible refine zQJ (N := 5) rfl ?_);refine Kd.R_lit (Kd.int .u64) _ 22 ?hg (N := 5) ?hd (xs := ([] : List Int)) (inner := []) (ok := fun _ => True) (okp := fun _ => True) ?hr ?hp (fun _ hk => hk) trivial (Below.refl _ _) (Nat.le_refl _) (by simp) ?_;(case hd => rfl);(case hg => rfl);(case hr => first | (go_simp;done) | (go_simp;rfl));(case hp => exact (Reps.none _ _));intro v285 w2 ho3 hb hg_ hnew_;clear hg_ hnew_;(first | rw [← Ny284.out] at ho3 | (simp only [Int.reduceToNat] at ho3;rw [← Ny284.out] at ho3));have HO286 := am (Kd.zQy ho3 (zQc pB));replace HB := am (zQf pB hb);clear hb ho3))
 go_loopg [3,4] k (fun kq v3 v4 w' => ∃ (x3_1 : List Int) (x4_1 : Int),v4 = .int .i64 x4_1 ∧ Aside0 (r5_Whole.l0 kq a0 x3_1 x4_1 = some r) ∧ Aside0 (kq ≤ k) ∧ Aside0 (Kd.R (Kd.int .u64) 22 w' w.heap.size (fun _ => True) v3 x3_1) ∧ Aside0 (Below w.heap.size w w'))
 case atStart => exact ⟨(y284),(0),(by first | rfl | (simp;done) | (simp [*];done)),H',⟨Nat.le_refl _⟩,⟨by (with_reducible repeat (first | apply Kd.zQw | apply Kd.zQu | apply Kd.zQx));exact HO286.out⟩,⟨pB⟩⟩
 case round =>
  clear H'
  try clear p2
  try clear c3
  obtain ⟨x3_1,x4_1,rfl,HA,HK1,HO_3,HB⟩ := hrel
  cases gk with
  | zero => exact absurd HA.out (by simp [r5_Whole.l0])
  | succ k1 =>
   have H := HA.out
   clear HA
   simp only [r5_Whole.l0] at H
   by_cases c4 : x4_1 < (a0.size : Int)
   ·rw [if_pos c4] at H
    have c4b0 : decide (x4_1 < (a0.size : Int)) = true := decide_eq_true c4
    clear c4
    obtain ⟨y287,hy287⟩ : ∃ y_ : List Int,y_ = (([10] : List Int)) := ⟨_,rfl⟩
    replace H : ((r1_Product.f k1 x3_1 y287).bind fun t290 => (if 0 ≤ x4_1 then ((r1_Sum.f k1 t290 (([((bt a0 x4_1) - 48) % 256] : List Int))).bind fun t296 => (r5_Whole.l0 k1 a0 t296 (wrap64 (x4_1 + 1)))) else (none))) = some r := by first | (rw [hy287];with_reducible exact H) | (have H2_ := (Option.bind_some _ _).symm.trans H;rw [hy287];with_reducible exact H2_) | (have H2_ := (Option.bind_some _ _).symm.trans H;with_reducible exact H2_) | with_reducible exact H | (rw [hy287];exact H) | exact H
    have Ny287 := am hy287
    clear hy287
    replace H := Option.bind_eq_some_iff.mp H
    obtain ⟨t290,A50,H⟩ := H
    try dsimp only at H
    have A5 := am A50
    clear A50
    by_cases c6 : 0 ≤ x4_1
    ·rw [if_pos c6] at H
     have c6b0 : decide (0 ≤ x4_1) = true := decide_eq_true c6
     clear c6
     obtain ⟨y293,hy293⟩ : ∃ y_ : List Int,y_ = (([((bt a0 x4_1) - 48) % 256] : List Int)) := ⟨_,rfl⟩
     replace H : ((r1_Sum.f k1 t290 y293).bind fun t296 => (r5_Whole.l0 k1 a0 t296 (wrap64 (x4_1 + 1)))) = some r := by first | (rw [hy293];with_reducible exact H) | (have H2_ := (Option.bind_some _ _).symm.trans H;rw [hy293];with_reducible exact H2_) | (have H2_ := (Option.bind_some _ _).symm.trans H;with_reducible exact H2_) | with_reducible exact H | (rw [hy293];exact H) | exact H
     have Ny293 := am hy293
     clear hy293
     replace H := Option.bind_eq_some_iff.mp H
     obtain ⟨t296,A80,H⟩ := H
     try dsimp only at H
     have A8 := am A80
     clear A80
     have H' := am H
     clear H
     obtain ⟨Ao9,co9,eo9⟩ := Kd.zQB HO_3.out
     subst eo9
     try go_wp2
     replace HO_3 := am (Kd.zQx HO_3.out)
     replace HB := am (zQM HB.out)
     have p7 : 0 ≤ (x4_1 : Int) := pD
     have q7 : x4_1 < (a0.size : Int) := pD
     have hx7 := bt_at a0 x4_1
     replace p7 := eq_true p7
     replace q7 := eq_true q7
     refine zXW (n := 11) (S := fun w' => True) (ds := []) (bm 11 0) (by kernel_rfl) rfl rfl trivial (fun hHeld => ?_);refine zXC r5_Whole.tab5 r5_Whole.bits5 (fun HT_ HW_ => ?_)
     generalize wr.drew = w10 at HO_3 HB hHeld ⊢
     refine pure_ (i := 0) (N := some 12) (v := ?_) (a' := ?_) (bm 11 1) rfl rfl (zQA HT_.out (by kernel_rfl)) (fun _ _ _ h => h) (Or.inl ⟨by kernel_rfl,?_⟩) ?_ ?_
     rotate_left
     ·intro w'
      go_simp
      with_reducible rfl
     rotate_left
     ·exact pA
     refine pure_ (i := 3) (N := some 15) (v := ?_) (a' := ?_) (bm 11 9) rfl rfl (zQA HT_.out (by kernel_rfl)) (fun _ _ _ h => h) (Or.inl ⟨by kernel_rfl,?_⟩) ?_ ?_
     rotate_left
     ·intro w'
      go_simp
      with_reducible rfl
     rotate_left
     ·exact pA
     refine pure_ (i := 4) (N := some 16) (v := ?_) (a' := ?_) (bm 11 25) rfl rfl (zQA HT_.out (by kernel_rfl)) (fun _ _ _ h => h) (Or.inl ⟨by kernel_rfl,?_⟩) ?_ ?_
     rotate_left
     ·intro w'
      go_simp
      with_reducible rfl
     rotate_left
     ·exact pA
     refine take_ (i := 5) (N := some 17) (v := ?_) (a' := ?_) (bm 11 57) rfl rfl (zXo HT_.out HW_.out (by kernel_rfl)) (fun _ _ _ h => h) (Or.inl ⟨by kernel_rfl,?_⟩) hHeld ?_ ?_
     rotate_left
     ·intro w' _
      go_simp
      with_reducible rfl
     rotate_left
     ·exact pA
     refine pure_ (i := 6) (N := some 18) (v := ?_) (a' := ?_) (bm 11 121) rfl rfl (zQA HT_.out (by kernel_rfl)) (fun _ _ _ h => h) (Or.inl ⟨by kernel_rfl,?_⟩) ?_ ?_
     rotate_left
     ·intro w'
      go_simp
      with_reducible rfl
     rotate_left
     ·exact pA
     refine pure_ (i := 7) (N := some 19) (v := ?_) (a' := ?_) (bm 11 249) rfl rfl (zQA HT_.out (by kernel_rfl)) (fun _ _ _ h => h) (Or.inl ⟨by kernel_rfl,?_⟩) ?_ ?_
     rotate_left
     ·intro w'
      go_simp
      with_reducible rfl
     rotate_left
     ·exact pA
     refine join_ (σ := Value × Value × Value) 2 (bm 11 511) (fun s_ => [(13,s_.1),(14,s_.2.1),(20,s_.2.2)]) (fun s_ w' => (Kd.R (Kd.int .u64) 22 w' w.heap.size (fun k_ => some k_ ≠ (s_.2.1 : Value).ownBlock ∧ some k_ ≠ (s_.2.2 : Value).ownBlock ∧ some k_ ≠ (.slice Ao9 x3_1.length co9 : Value).ownBlock) s_.1 y287) ∧ (Kd.R (Kd.int .u64) 22 w' w.heap.size (fun k_ => some k_ ≠ (s_.1 : Value).ownBlock ∧ some k_ ≠ (s_.2.2 : Value).ownBlock ∧ some k_ ≠ (.slice Ao9 x3_1.length co9 : Value).ownBlock) s_.2.1 t290) ∧ (Kd.R (Kd.int .u64) 22 w' w.heap.size (fun k_ => some k_ ≠ (s_.1 : Value).ownBlock ∧ some k_ ≠ (s_.2.1 : Value).ownBlock ∧ some k_ ≠ (.slice Ao9 x3_1.length co9 : Value).ownBlock) s_.2.2 y293) ∧ (Kd.R (Kd.int .u64) 22 w' w.heap.size (fun k_ => some k_ ≠ (s_.1 : Value).ownBlock ∧ some k_ ≠ (s_.2.1 : Value).ownBlock ∧ some k_ ≠ (s_.2.2 : Value).ownBlock) (.slice Ao9 x3_1.length co9) x3_1) ∧ (Below w.heap.size w w')) ?_ ?_
     rotate_left
     ·intro hCont
      refine two_ (i := 1) (j := 8) (Ni := some 13) (Nj := some 20) (bm 11 251) (bm 11 505) rfl rfl rfl rfl (two_of HT_.out (by kernel_rfl)) (by decide) (by decide) (fun K hK => ?_) (fun K hK => ?_)
      ·skip
       refine Kd.zYb (Kd.int .u64) _ 22 ?hg (N := 13) ?hd (xs := ([10] : List Int)) (inner := [.int .u64 10]) (ok := fun _ => True) (okp := fun _ => True) ?hr ?hp (fun _ hk => hk) trivial (Below.refl _ _) (Nat.le_refl _) (by simp) ?_;(case hd => rfl);(case hg => rfl);(case hr => first | (go_simp;done) | (go_simp;rfl));(case hp => exact (Reps.one (show Kd.M (Kd.int .u64) _ _ _ 10 [.int .u64 10] from rfl) (Reps.none _ _)))
       intro v288 w11 ho12 hb hg_ hnew_
       clear hg_ hnew_
       (first | rw [← Ny287.out] at ho12 | (simp only [Int.reduceToNat] at ho12;rw [← Ny287.out] at ho12))
       have n0_ := am (Kd.zQt (pR HO_3.out) (Kd.zQs ho12) hb)
       have n1_ := am (Kd.zQy (Kd.zQC ho12 (Kd.R_lt (pR HO_3.out))) (zQc pB))
       have n2_ := am (zQf pB hb)
       clear HO_3 HB;have HO_3 := n0_;have HO289 := n1_;have HB := n2_;clear n0_ n1_ n2_ hb ho12
       obtain ⟨Ao13,co13,eo13⟩ := Kd.zQB HO289.out
       (first | subst eo13 | (injection eo13 with f1_ f2_ f3_;have f4_ := f1_.symm;have f5_ := f3_.symm;clear f1_ f2_ f3_;subst f4_;subst f5_))
       refine hK.out _ _ trivial (fun hHeld => ?_)
       clear hK K
       refine norm_ (a' := ?_) ?_ ?_
       rotate_left
       ·show Act.put _ (some 13) _ = _
        exact pA
       refine two_ (i := 2) (j := 8) (Ni := some 14) (Nj := some 20) (bm 11 255) (bm 11 507) rfl rfl rfl rfl (two_of HT_.out (by kernel_rfl)) (by decide) (by decide) (fun K hK => ?_) (fun K hK => ?_)
       ·skip
        refine goes_ Tryz.func34 (by kernel_rfl) rfl #[.slice Ao9 x3_1.length co9,.slice Ao13 y287.length co13] (by rfl) rfl rfl pM ?_
        with_reducible refine (r1_Product.calls k1 _ _ x3_1 _ _ y287 t290 _ ?side1 ?side2 ?side3 ?side4 A5.out).mono ?_
        (case side1 => repeat (first | exact (Kd.zQh HO_3.out).2.2 | (with_reducible refine Kd.zQj ?_ _) | (with_reducible refine Kd.zQi ?_ _) | (with_reducible refine Kd.zQv ?_)))
        (case side2 => exact (Kd.zQh HO_3.out).2.1)
        (case side3 => repeat (first | exact (Kd.zQh HO289.out).2.2 | (with_reducible refine Kd.zQj ?_ _) | (with_reducible refine Kd.zQi ?_ _) | (with_reducible refine Kd.zQv ?_)))
        (case side4 => exact (Kd.zQh HO289.out).2.1)
        rintro e w14 ⟨v291,rfl,ho0,hb⟩
        refine ⟨_,rfl,?_⟩
        have n0_ := am (Kd.zQt (pR HO_3.out) (Kd.zQs ho0) hb)
        have n1_ := am (Kd.zQt (pR HO289.out) (Kd.zQs ho0) hb)
        have n2_ := am (Kd.zQy (Kd.zQC (Kd.zQC ho0 (Kd.R_lt (pR HO_3.out))) (Kd.R_lt (pR HO289.out))) (zQc pB))
        have n3_ := am (zQf pB hb)
        clear HO_3 HO289 HB;have HO_3 := n0_;have HO289 := n1_;have HO292 := n2_;have HB := n3_;clear n0_ n1_ n2_ n3_;(try clear hb);(try clear ho0)
        refine hK.out _ _ trivial (fun hHeld => ?_)
        clear hK K
        refine norm_ (a' := ?_) ?_ ?_
        rotate_left
        ·show Act.put _ (some 14) _ = _
         exact pA
        refine one_ (i := 8) (N := some 20) (bm 11 511) rfl rfl (zQW HT_.out (by kernel_rfl)) (by decide) (fun K hK => ?_)
        have hu8_ : IntKind.u64.wrap (IntKind.u8.wrap ((bt a0 x4_1) - 48)) = ((bt a0 x4_1) - 48) % 256 := by unfold IntKind.wrap;simp [IntKind.bits,IntKind.signed];omega
        refine Kd.zYb (Kd.int .u64) _ 22 ?hg (N := 20) ?hd (xs := ([((bt a0 x4_1) - 48) % 256] : List Int)) (inner := [.int .u64 (((bt a0 x4_1) - 48) % 256)]) (ok := fun _ => True) (okp := fun _ => True) ?hr ?hp (fun _ hk => hk) trivial (Below.refl _ _) (Nat.le_refl _) (by simp) ?_;(case hd => rfl);(case hg => rfl);(case hr => first | (go_simp;done) | (go_simp;rfl));(case hp => exact (Reps.one (show Kd.M (Kd.int .u64) _ _ _ (((bt a0 x4_1) - 48) % 256) [.int .u64 (((bt a0 x4_1) - 48) % 256)] from rfl) (Reps.none _ _)))
        intro v294 w15 ho16 hb hg_ hnew_
        clear hg_ hnew_
        (first | rw [← Ny293.out] at ho16 | (simp only [Int.reduceToNat] at ho16;rw [← Ny293.out] at ho16))
        have n0_ := am (Kd.zQt (pR HO_3.out) (Kd.zQs ho16) hb)
        have n1_ := am (Kd.zQt (pR HO289.out) (Kd.zQs ho16) hb)
        have n2_ := am (Kd.zQt (pR HO292.out) (Kd.zQs ho16) hb)
        have n3_ := am (Kd.zQy (Kd.zQC (Kd.zQC (Kd.zQC ho16 (Kd.R_lt (pR HO_3.out))) (Kd.R_lt (pR HO289.out))) (Kd.R_lt (pR HO292.out))) (zQc pB))
        have n4_ := am (zQf pB hb)
        clear HO_3 HO289 HO292 HB;have HO_3 := n0_;have HO289 := n1_;have HO292 := n2_;have HO295 := n3_;have HB := n4_;clear n0_ n1_ n2_ n3_ n4_ hb ho16
        refine hK.out _ _ trivial (fun hHeld => ?_)
        clear hK K
        refine norm_ (a' := ?_) ?_ ?_
        rotate_left
        ·show Act.put _ (some 20) _ = _
         exact pA
        exact norm_ (by simp only [zZL,Act.put,List.setIfInBounds_toArray,List.set_cons_zero,List.set_cons_succ]) (hCont (.slice Ao13 y287.length co13,v291,v294) _ ⟨(by (with_reducible repeat (first | apply Kd.zQw | apply Kd.zQu | apply Kd.zQx));exact Kd.zQE HO289.out (fun _ hk => ⟨hk.1.2,⟨hk.2,hk.1.1.2⟩⟩)),(by (with_reducible repeat (first | apply Kd.zQw | apply Kd.zQu | apply Kd.zQx));exact Kd.zQE HO292.out (fun _ hk => ⟨hk.1.2,⟨hk.2,hk.1.1.2⟩⟩)),(by (with_reducible repeat (first | apply Kd.zQw | apply Kd.zQu | apply Kd.zQx));exact Kd.zQE HO295.out (fun _ hk => ⟨hk.1.2,⟨hk.2,hk.1.1.2⟩⟩)),(by (with_reducible repeat (first | apply Kd.zQw | apply Kd.zQu | apply Kd.zQx));exact Kd.zQE HO_3.out (fun _ hk => ⟨hk.1.1.2,⟨hk.1.2,hk.2⟩⟩)),pB⟩)
       ·skip
        have hu8_ : IntKind.u64.wrap (IntKind.u8.wrap ((bt a0 x4_1) - 48)) = ((bt a0 x4_1) - 48) % 256 := by unfold IntKind.wrap;simp [IntKind.bits,IntKind.signed];omega
        refine Kd.zYb (Kd.int .u64) _ 22 ?hg (N := 20) ?hd (xs := ([((bt a0 x4_1) - 48) % 256] : List Int)) (inner := [.int .u64 (((bt a0 x4_1) - 48) % 256)]) (ok := fun _ => True) (okp := fun _ => True) ?hr ?hp (fun _ hk => hk) trivial (Below.refl _ _) (Nat.le_refl _) (by simp) ?_;(case hd => rfl);(case hg => rfl);(case hr => first | (go_simp;done) | (go_simp;rfl));(case hp => exact (Reps.one (show Kd.M (Kd.int .u64) _ _ _ (((bt a0 x4_1) - 48) % 256) [.int .u64 (((bt a0 x4_1) - 48) % 256)] from rfl) (Reps.none _ _)))
        intro v294 w13 ho14 hb hg_ hnew_
        clear hg_ hnew_
        (first | rw [← Ny293.out] at ho14 | (simp only [Int.reduceToNat] at ho14;rw [← Ny293.out] at ho14))
        have n0_ := am (Kd.zQt (pR HO_3.out) (Kd.zQs ho14) hb)
        have n1_ := am (Kd.zQt (pR HO289.out) (Kd.zQs ho14) hb)
        have n2_ := am (Kd.zQy (Kd.zQC (Kd.zQC ho14 (Kd.R_lt (pR HO_3.out))) (Kd.R_lt (pR HO289.out))) (zQc pB))
        have n3_ := am (zQf pB hb)
        clear HO_3 HO289 HB;have HO_3 := n0_;have HO289 := n1_;have HO295 := n2_;have HB := n3_;clear n0_ n1_ n2_ n3_ hb ho14
        obtain ⟨Ao15,co15,eo15⟩ := Kd.zQB HO289.out
        (first | subst eo15 | (injection eo15 with f1_ f2_ f3_;have f4_ := f1_.symm;have f5_ := f3_.symm;clear f1_ f2_ f3_;subst f4_;subst f5_))
        refine hK.out _ _ trivial (fun hHeld => ?_)
        clear hK K
        refine norm_ (a' := ?_) ?_ ?_
        rotate_left
        ·show Act.put _ (some 20) _ = _
         exact pA
        refine one_ (i := 2) (N := some 14) (bm 11 511) rfl rfl (zQW HT_.out (by kernel_rfl)) (by decide) (fun K hK => ?_)
        refine goes_ Tryz.func34 (by kernel_rfl) rfl #[.slice Ao9 x3_1.length co9,.slice Ao15 y287.length co15] (by rfl) rfl rfl pM ?_
        with_reducible refine (r1_Product.calls k1 _ _ x3_1 _ _ y287 t290 _ ?side1 ?side2 ?side3 ?side4 A5.out).mono ?_
        (case side1 => repeat (first | exact (Kd.zQh HO_3.out).2.2 | (with_reducible refine Kd.zQj ?_ _) | (with_reducible refine Kd.zQi ?_ _) | (with_reducible refine Kd.zQv ?_)))
        (case side2 => exact (Kd.zQh HO_3.out).2.1)
        (case side3 => repeat (first | exact (Kd.zQh HO289.out).2.2 | (with_reducible refine Kd.zQj ?_ _) | (with_reducible refine Kd.zQi ?_ _) | (with_reducible refine Kd.zQv ?_)))
        (case side4 => exact (Kd.zQh HO289.out).2.1)
        rintro e w16 ⟨v291,rfl,ho0,hb⟩
        refine ⟨_,rfl,?_⟩
        have n0_ := am (Kd.zQt (pR HO_3.out) (Kd.zQs ho0) hb)
        have n1_ := am (Kd.zQt (pR HO289.out) (Kd.zQs ho0) hb)
        have n2_ := am (Kd.zQt (pR HO295.out) (Kd.zQs ho0) hb)
        have n3_ := am (Kd.zQy (Kd.zQC (Kd.zQC (Kd.zQC ho0 (Kd.R_lt (pR HO_3.out))) (Kd.R_lt (pR HO289.out))) (Kd.R_lt (pR HO295.out))) (zQc pB))
        have n4_ := am (zQf pB hb)
        clear HO_3 HO289 HO295 HB;have HO_3 := n0_;have HO289 := n1_;have HO295 := n2_;have HO292 := n3_;have HB := n4_;clear n0_ n1_ n2_ n3_ n4_;(try clear hb);(try clear ho0)
        refine hK.out _ _ trivial (fun hHeld => ?_)
        clear hK K
        refine norm_ (a' := ?_) ?_ ?_
        rotate_left
        ·show Act.put _ (some 14) _ = _
         exact pA
        exact norm_ (by simp only [zZL,Act.put,List.setIfInBounds_toArray,List.set_cons_zero,List.set_cons_succ]) (hCont (.slice Ao15 y287.length co15,v291,v294) _ ⟨(by (with_reducible repeat (first | apply Kd.zQw | apply Kd.zQu | apply Kd.zQx));exact Kd.zQE HO289.out (fun _ hk => ⟨hk.2,⟨hk.1.2,hk.1.1.2⟩⟩)),(by (with_reducible repeat (first | apply Kd.zQw | apply Kd.zQu | apply Kd.zQx));exact Kd.zQE HO292.out (fun _ hk => ⟨hk.1.2,⟨hk.2,hk.1.1.2⟩⟩)),(by (with_reducible repeat (first | apply Kd.zQw | apply Kd.zQu | apply Kd.zQx));exact Kd.zQE HO295.out (fun _ hk => ⟨hk.1.2,⟨hk.2,hk.1.1.2⟩⟩)),(by (with_reducible repeat (first | apply Kd.zQw | apply Kd.zQu | apply Kd.zQx));exact Kd.zQE HO_3.out (fun _ hk => ⟨hk.1.1.2,⟨hk.2,hk.1.2⟩⟩)),pB⟩)
      ·skip
       have hu8_ : IntKind.u64.wrap (IntKind.u8.wrap ((bt a0 x4_1) - 48)) = ((bt a0 x4_1) - 48) % 256 := by unfold IntKind.wrap;simp [IntKind.bits,IntKind.signed];omega
       refine Kd.zYb (Kd.int .u64) _ 22 ?hg (N := 20) ?hd (xs := ([((bt a0 x4_1) - 48) % 256] : List Int)) (inner := [.int .u64 (((bt a0 x4_1) - 48) % 256)]) (ok := fun _ => True) (okp := fun _ => True) ?hr ?hp (fun _ hk => hk) trivial (Below.refl _ _) (Nat.le_refl _) (by simp) ?_;(case hd => rfl);(case hg => rfl);(case hr => first | (go_simp;done) | (go_simp;rfl));(case hp => exact (Reps.one (show Kd.M (Kd.int .u64) _ _ _ (((bt a0 x4_1) - 48) % 256) [.int .u64 (((bt a0 x4_1) - 48) % 256)] from rfl) (Reps.none _ _)))
       intro v294 w11 ho12 hb hg_ hnew_
       clear hg_ hnew_
       (first | rw [← Ny293.out] at ho12 | (simp only [Int.reduceToNat] at ho12;rw [← Ny293.out] at ho12))
       have n0_ := am (Kd.zQt (pR HO_3.out) (Kd.zQs ho12) hb)
       have n1_ := am (Kd.zQy (Kd.zQC ho12 (Kd.R_lt (pR HO_3.out))) (zQc pB))
       have n2_ := am (zQf pB hb)
       clear HO_3 HB;have HO_3 := n0_;have HO295 := n1_;have HB := n2_;clear n0_ n1_ n2_ hb ho12
       refine hK.out _ _ trivial (fun hHeld => ?_)
       clear hK K
       refine norm_ (a' := ?_) ?_ ?_
       rotate_left
       ·show Act.put _ (some 20) _ = _
        exact pA
       refine one_ (i := 1) (N := some 13) (bm 11 507) rfl rfl (zQW HT_.out (by kernel_rfl)) (by decide) (fun K hK => ?_)
       refine Kd.zYb (Kd.int .u64) _ 22 ?hg (N := 13) ?hd (xs := ([10] : List Int)) (inner := [.int .u64 10]) (ok := fun _ => True) (okp := fun _ => True) ?hr ?hp (fun _ hk => hk) trivial (Below.refl _ _) (Nat.le_refl _) (by simp) ?_;(case hd => rfl);(case hg => rfl);(case hr => first | (go_simp;done) | (go_simp;rfl));(case hp => exact (Reps.one (show Kd.M (Kd.int .u64) _ _ _ 10 [.int .u64 10] from rfl) (Reps.none _ _)))
       intro v288 w13 ho14 hb hg_ hnew_
       clear hg_ hnew_
       (first | rw [← Ny287.out] at ho14 | (simp only [Int.reduceToNat] at ho14;rw [← Ny287.out] at ho14))
       have n0_ := am (Kd.zQt (pR HO_3.out) (Kd.zQs ho14) hb)
       have n1_ := am (Kd.zQt (pR HO295.out) (Kd.zQs ho14) hb)
       have n2_ := am (Kd.zQy (Kd.zQC (Kd.zQC ho14 (Kd.R_lt (pR HO_3.out))) (Kd.R_lt (pR HO295.out))) (zQc pB))
       have n3_ := am (zQf pB hb)
       clear HO_3 HO295 HB;have HO_3 := n0_;have HO295 := n1_;have HO289 := n2_;have HB := n3_;clear n0_ n1_ n2_ n3_ hb ho14
       obtain ⟨Ao15,co15,eo15⟩ := Kd.zQB HO289.out
       (first | subst eo15 | (injection eo15 with f1_ f2_ f3_;have f4_ := f1_.symm;have f5_ := f3_.symm;clear f1_ f2_ f3_;subst f4_;subst f5_))
       refine hK.out _ _ trivial (fun hHeld => ?_)
       clear hK K
       refine norm_ (a' := ?_) ?_ ?_
       rotate_left
       ·show Act.put _ (some 13) _ = _
        exact pA
       refine one_ (i := 2) (N := some 14) (bm 11 511) rfl rfl (zQW HT_.out (by kernel_rfl)) (by decide) (fun K hK => ?_)
       refine goes_ Tryz.func34 (by kernel_rfl) rfl #[.slice Ao9 x3_1.length co9,.slice Ao15 y287.length co15] (by rfl) rfl rfl pM ?_
       with_reducible refine (r1_Product.calls k1 _ _ x3_1 _ _ y287 t290 _ ?side1 ?side2 ?side3 ?side4 A5.out).mono ?_
       (case side1 => repeat (first | exact (Kd.zQh HO_3.out).2.2 | (with_reducible refine Kd.zQj ?_ _) | (with_reducible refine Kd.zQi ?_ _) | (with_reducible refine Kd.zQv ?_)))
       (case side2 => exact (Kd.zQh HO_3.out).2.1)
       (case side3 => repeat (first | exact (Kd.zQh HO289.out).2.2 | (with_reducible refine Kd.zQj ?_ _) | (with_reducible refine Kd.zQi ?_ _) | (with_reducible refine Kd.zQv ?_)))
       (case side4 => exact (Kd.zQh HO289.out).2.1)
       rintro e w16 ⟨v291,rfl,ho0,hb⟩
       refine ⟨_,rfl,?_⟩
       have n0_ := am (Kd.zQt (pR HO_3.out) (Kd.zQs ho0) hb)
       have n1_ := am (Kd.zQt (pR HO295.out) (Kd.zQs ho0) hb)
       have n2_ := am (Kd.zQt (pR HO289.out) (Kd.zQs ho0) hb)
       have n3_ := am (Kd.zQy (Kd.zQC (Kd.zQC (Kd.zQC ho0 (Kd.R_lt (pR HO_3.out))) (Kd.R_lt (pR HO295.out))) (Kd.R_lt (pR HO289.out))) (zQc pB))
       have n4_ := am (zQf pB hb)
       clear HO_3 HO295 HO289 HB;have HO_3 := n0_;have HO295 := n1_;have HO289 := n2_;have HO292 := n3_;have HB := n4_;clear n0_ n1_ n2_ n3_ n4_;(try clear hb);(try clear ho0)
       refine hK.out _ _ trivial (fun hHeld => ?_)
       clear hK K
       refine norm_ (a' := ?_) ?_ ?_
       rotate_left
       ·show Act.put _ (some 14) _ = _
        exact pA
       exact norm_ (by simp only [zZL,Act.put,List.setIfInBounds_toArray,List.set_cons_zero,List.set_cons_succ]) (hCont (.slice Ao15 y287.length co15,v291,v294) _ ⟨(by (with_reducible repeat (first | apply Kd.zQw | apply Kd.zQu | apply Kd.zQx));exact Kd.zQE HO289.out (fun _ hk => ⟨hk.2,⟨hk.1.2,hk.1.1.2⟩⟩)),(by (with_reducible repeat (first | apply Kd.zQw | apply Kd.zQu | apply Kd.zQx));exact Kd.zQE HO292.out (fun _ hk => ⟨hk.2,⟨hk.1.2,hk.1.1.2⟩⟩)),(by (with_reducible repeat (first | apply Kd.zQw | apply Kd.zQu | apply Kd.zQx));exact Kd.zQE HO295.out (fun _ hk => ⟨hk.1.2,⟨hk.2,hk.1.1.2⟩⟩)),(by (with_reducible repeat (first | apply Kd.zQw | apply Kd.zQu | apply Kd.zQx));exact Kd.zQE HO_3.out (fun _ hk => ⟨hk.1.2,⟨hk.2,hk.1.1.2⟩⟩)),pB⟩)
     rintro ⟨v288,v291,v294⟩ w17 ⟨h0_,h1_,h2_,h3_,h4_⟩
     have n0_ : Aside0 (Kd.R (Kd.int .u64) 22 w17 w.heap.size (fun k_ => some k_ ≠ (v291 : Value).ownBlock ∧ some k_ ≠ (v294 : Value).ownBlock ∧ some k_ ≠ (.slice Ao9 x3_1.length co9 : Value).ownBlock) v288 y287) := ⟨h0_⟩
     have n1_ : Aside0 (Kd.R (Kd.int .u64) 22 w17 w.heap.size (fun k_ => some k_ ≠ (v288 : Value).ownBlock ∧ some k_ ≠ (v294 : Value).ownBlock ∧ some k_ ≠ (.slice Ao9 x3_1.length co9 : Value).ownBlock) v291 t290) := ⟨h1_⟩
     have n2_ : Aside0 (Kd.R (Kd.int .u64) 22 w17 w.heap.size (fun k_ => some k_ ≠ (v288 : Value).ownBlock ∧ some k_ ≠ (v291 : Value).ownBlock ∧ some k_ ≠ (.slice Ao9 x3_1.length co9 : Value).ownBlock) v294 y293) := ⟨h2_⟩
     have n3_ : Aside0 (Kd.R (Kd.int .u64) 22 w17 w.heap.size (fun k_ => some k_ ≠ (v288 : Value).ownBlock ∧ some k_ ≠ (v291 : Value).ownBlock ∧ some k_ ≠ (v294 : Value).ownBlock) (.slice Ao9 x3_1.length co9) x3_1) := ⟨h3_⟩
     have n4_ : Aside0 (Below w.heap.size w w17) := ⟨h4_⟩
     clear HO_3 HB h0_ h1_ h2_ h3_ h4_;have HO289 := n0_;have HO292 := n1_;have HO295 := n2_;have HO_3 := n3_;have HB := n4_;clear n0_ n1_ n2_ n3_ n4_
     have hHeld := trivial
     obtain ⟨Ao18,co18,eo18⟩ := Kd.zQB HO292.out
     (first | subst eo18 | (injection eo18 with f1_ f2_ f3_;have f4_ := f1_.symm;have f5_ := f3_.symm;clear f1_ f2_ f3_;subst f4_;subst f5_))
     obtain ⟨Ao19,co19,eo19⟩ := Kd.zQB HO295.out
     (first | subst eo19 | (injection eo19 with f1_ f2_ f3_;have f4_ := f1_.symm;have f5_ := f3_.symm;clear f1_ f2_ f3_;subst f4_;subst f5_))
     refine norm_ (a' := ?_) ?_ ?_
     rotate_left
     ·exact pA2
     refine one_ (i := 9) (N := some 21) (bm 11 1023) rfl rfl (zQW HT_.out (by kernel_rfl)) (by decide) (fun K hK => ?_)
     refine goes_ Tryz.func51 (by kernel_rfl) rfl #[.slice Ao18 t290.length co18,.slice Ao19 y293.length co19] (by rfl) rfl rfl pM ?_
     with_reducible refine (r1_Sum.calls k1 _ _ t290 _ _ y293 t296 _ ?side1 ?side2 ?side3 ?side4 A8.out).mono ?_
     (case side1 => repeat (first | exact (Kd.zQh HO292.out).2.2 | (with_reducible refine Kd.zQj ?_ _) | (with_reducible refine Kd.zQi ?_ _) | (with_reducible refine Kd.zQv ?_)))
     (case side2 => exact (Kd.zQh HO292.out).2.1)
     (case side3 => repeat (first | exact (Kd.zQh HO295.out).2.2 | (with_reducible refine Kd.zQj ?_ _) | (with_reducible refine Kd.zQi ?_ _) | (with_reducible refine Kd.zQv ?_)))
     (case side4 => exact (Kd.zQh HO295.out).2.1)
     rintro e w20 ⟨v297,rfl,ho0,hb⟩
     refine ⟨_,rfl,?_⟩
     have n0_ := am (Kd.zQt (pR HO_3.out) (Kd.zQs ho0) hb)
     have n1_ := am (Kd.zQt (pR HO289.out) (Kd.zQs ho0) hb)
     have n2_ := am (Kd.zQt (pR HO292.out) (Kd.zQs ho0) hb)
     have n3_ := am (Kd.zQt (pR HO295.out) (Kd.zQs ho0) hb)
     have n4_ := am (Kd.zQy (Kd.zQC (Kd.zQC (Kd.zQC (Kd.zQC ho0 (Kd.R_lt (pR HO_3.out))) (Kd.R_lt (pR HO289.out))) (Kd.R_lt (pR HO292.out))) (Kd.R_lt (pR HO295.out))) (zQc pB))
     have n5_ := am (zQf pB hb)
     clear HO_3 HO289 HO292 HO295 HB;have HO_3 := n0_;have HO289 := n1_;have HO292 := n2_;have HO295 := n3_;have HO298 := n4_;have HB := n5_;clear n0_ n1_ n2_ n3_ n4_ n5_;(try clear hb);(try clear ho0)
     refine hK.out _ _ trivial (fun hHeld => ?_)
     clear hK K
     refine norm_ (a' := ?_) ?_ ?_
     rotate_left
     ·show Act.put _ (some 21) _ = _
      exact pA
     refine pure_ (i := 10) (N := some 3) (v := ?_) (a' := ?_) (bm 11 2047) rfl rfl (zQA HT_.out (by kernel_rfl)) (fun _ _ _ h => h) (Or.inl ⟨by kernel_rfl,?_⟩) ?_ ?_
     rotate_left
     ·intro w'
      go_simp
      with_reducible rfl
     rotate_left
     ·exact pA
     refine done_ (zYh HT_.out (by kernel_rfl)) ?_
     try go_wp2
     go_roundg k1
     case measure => have := HK1.out;omega
     case rel => exact ⟨(t296),(wrap64 (x4_1 + 1)),(by first | rfl | (simp;done) | (simp [*];done)),H',⟨by have := HK1.out;omega⟩,⟨by (with_reducible repeat (first | apply Kd.zQw | apply Kd.zQu | apply Kd.zQx));exact Kd.zQE HO298.out (fun _ hk => trivial)⟩,⟨pB⟩⟩
    ·rw [if_neg c6] at H
     exact absurd H (by simp)
   ·rw [if_neg c4] at H
    have c4b0 : decide (x4_1 < (a0.size : Int)) = false := decide_eq_false c4
    clear c4
    obtain rfl := Option.some.inj H
    go_wp2
    go_ret
    exact ⟨_,pE,by (with_reducible repeat (first | apply Kd.zQw | apply Kd.zQu | apply Kd.zQx));exact HO_3.out,pB⟩
def r1_Sign.f (a0 : Bool) : Option (Int) := if a0 = true then (some 9223372036854775808) else (some 0)
set_option maxHeartbeats 8000000 in
set_option maxRecDepth 100000 in
theorem r1_Sign.calls (a0 : Bool) (r : Int) (w : World) (h : r1_Sign.f a0 = some r) :
  Calls Tryz.prog 62 #[.bool a0] w fun e w' => e = .returned (.int .u64 r) ∧ Drawn0 w w' := by
 have H : (if a0 = true then (some 9223372036854775808) else (some 0)) = some r := h
 clear h
 by_cases c2 : a0 = true
 ·subst c2
  rw [if_pos rfl] at H
  obtain rfl := Option.some.inj H
  go_enter Tryz.func62,Tryz.ntmps62
  go_wp2
  go_ret
  exact ⟨by first | rfl | (simp;done) | (simp [*];done),by repeat (first | exact Drawn0.refl _ | apply Drawn0.step)⟩
 ·replace c2 := Bool.eq_false_iff.mpr c2
  subst c2
  rw [if_neg (show ¬ (false = true) by decide)] at H
  obtain rfl := Option.some.inj H
  go_enter Tryz.func62,Tryz.ntmps62
  go_wp2
  go_ret
  exact ⟨by first | rfl | (simp;done) | (simp [*];done),by repeat (first | exact Drawn0.refl _ | apply Drawn0.step)⟩
def r1_Infinite.f (a0 : Bool) : Option (Int) := (r1_Sign.f a0).bind fun t299 => (some (Go.bits .or .u64 t299 9218868437227405312))
set_option maxHeartbeats 8000000 in
set_option maxRecDepth 100000 in
theorem r1_Infinite.calls (a0 : Bool) (r : Int) (w : World) (h : r1_Infinite.f a0 = some r) :
  Calls Tryz.prog 32 #[.bool a0] w fun e w' => e = .returned (.int .u64 r) ∧ Drawn0 w w' := by
 have H : ((r1_Sign.f a0).bind fun t299 => (some (Go.bits .or .u64 t299 9218868437227405312))) = some r := h
 clear h
 replace H := Option.bind_eq_some_iff.mp H
 obtain ⟨t299,A20,H⟩ := H
 try dsimp only at H
 have A2 := am A20
 clear A20
 obtain rfl := Option.some.inj H
 go_enter Tryz.func32,Tryz.ntmps32
 go_wp2_with (first | ((with_reducible refine zQe (f := 62) rfl ?_);refine zQr (some 4) rfl rfl Tryz.func62 (by kernel_rfl) rfl #[.bool a0] rfl pM ?_;(with_reducible refine (r1_Sign.calls a0 t299 _ A2.out).mono ?_);rintro e w' ⟨rfl,⟨nd,rfl⟩⟩;refine ⟨_,rfl,?_⟩))
 go_ret
 exact ⟨by first | rfl | (simp;done) | (simp [*];done),by repeat (first | exact Drawn0.refl _ | apply Drawn0.step)⟩
def r1_Bit.f (l0 : List Int) (a1 : Int) : Option (Int) := (r1_at.f l0 (wrap64 (Int.tdiv a1 16))).bind fun t300 => (if 0 ≤ (IntKind.u64.wrap (Int.tmod a1 16)) then (some (Go.bits .and .u64 (shr .u64 t300 (IntKind.u64.wrap (Int.tmod a1 16))) 1)) else (none))
set_option maxHeartbeats 8000000 in
set_option maxRecDepth 100000 in
theorem r1_Bit.calls (A0 : Option Addr) (c0 : Nat) (l0 : List Int) (a1 : Int) (r : Int) (w : World) (hr0 : Kd.C (Kd.int .u64) w A0 l0.length l0) (hc0 : l0.length ≤ c0) (h : r1_Bit.f l0 a1 = some r) :
  Calls Tryz.prog 54 #[.slice A0 l0.length c0,.int .i64 a1] w fun e w' => e = .returned (.int .u64 r) ∧ Drawn0 w w' := by
 have HR0 := am hr0
 have HC0 := am hc0
 clear hr0 hc0
 have H : ((r1_at.f l0 (wrap64 (Int.tdiv a1 16))).bind fun t300 => (if 0 ≤ (IntKind.u64.wrap (Int.tmod a1 16)) then (some (Go.bits .and .u64 (shr .u64 t300 (IntKind.u64.wrap (Int.tmod a1 16))) 1)) else (none))) = some r := h
 clear h
 replace H := Option.bind_eq_some_iff.mp H
 obtain ⟨t300,A30,H⟩ := H
 try dsimp only at H
 have A3 := am A30
 clear A30
 obtain ⟨ji4,hji4⟩ : ∃ j_ : Int,(IntKind.u64.wrap (Int.tmod a1 16)) = j_ := ⟨_,rfl⟩
 replace H : (if 0 ≤ (ji4) then (some (Go.bits .and .u64 (shr .u64 t300 (ji4)) 1)) else (none)) = some r := by first | (rw [hji4] at H;exact H) | (simp only [hji4] at H ⊢;exact H)
 (try rw [hji4] at A3)
 by_cases c5 : 0 ≤ (ji4)
 ·rw [if_pos c5] at H
  have c5b0 := eq_true c5
  have c5b1 : decide (0 ≤ (ji4)) = true := decide_eq_true c5
  clear c5
  obtain ⟨ji6,hji6⟩ : ∃ j_ : Int,(shr .u64 t300 (ji4)) = j_ := ⟨_,rfl⟩
  replace H : (some (Go.bits .and .u64 (ji6) 1)) = some r := by first | (rw [hji6] at H;exact H) | (simp only [hji6] at H ⊢;exact H)
  (try rw [hji6] at A3)
  have hji6_ : (t300 / 2 ^ min (ji4).toNat 64) = ji6 := hji6
  have hji6z : (ji4) ≤ 64 → (t300 / 2 ^ (ji4).toNat) = ji6 := zKY hji6
  obtain rfl := Option.some.inj H
  go_enter Tryz.func54,Tryz.ntmps54
  go_wp2_with (first | ((with_reducible refine zQe (f := 81) rfl ?_);refine zQr (some 8) rfl rfl Tryz.func81 (by kernel_rfl) rfl #[.slice A0 l0.length c0,.int .i64 (wrap64 (Int.tdiv a1 16))] rfl pM ?_;(with_reducible refine (r1_at.calls _ _ l0 (wrap64 (Int.tdiv a1 16)) t300 _ ?side1 ?side2 A3.out).mono ?_);(case side1 => exact pC HR0.out);(case side2 => exact HC0.out);rintro e w' ⟨rfl,⟨nd,rfl⟩⟩;refine ⟨_,rfl,?_⟩))
  go_ret
  exact ⟨by first | rfl | (simp;done) | (simp only [← hji4,← hji6] <;> (first | rfl | simp)) | (simp [*];done),by repeat (first | exact Drawn0.refl _ | apply Drawn0.step)⟩
 ·rw [if_neg c5] at H
  exact absurd H (by simp)
def r1_Len.l0 : Nat → List Int → Int → Option (Int)
 | 0,_,_ => none
 | k + 1,x0,x3 => if x3 > 0 then ((r1_Bit.f x0 (wrap64 (x3 - 1))).bind fun t301 => (if t301 = 0 then (r1_Len.l0 k x0 (wrap64 (x3 - 1))) else (some x3))) else (some x3)
def r1_Len.f (k : Nat) (l0 : List Int) : Option (Int) := r1_Len.l0 k l0 (wrap64 (16 * (l0.length : Int)))
set_option maxHeartbeats 8000000 in
set_option maxRecDepth 100000 in
theorem r1_Len.calls (k : Nat) (A0 : Option Addr) (c0 : Nat) (l0 : List Int) (r : Int) (w : World) (hr0 : Kd.C (Kd.int .u64) w A0 l0.length l0) (hc0 : l0.length ≤ c0) (h : r1_Len.f k l0 = some r) :
  Calls Tryz.prog 36 #[.slice A0 l0.length c0] w fun e w' => e = .returned (.int .i64 r) ∧ Drawn0 w w' := by
 have HR0 := am hr0
 have HC0 := am hc0
 clear hr0 hc0
 have H : (r1_Len.l0 k l0 (wrap64 (16 * (l0.length : Int)))) = some r := h
 clear h
 have H' := am H
 clear H
 go_enter Tryz.func36,Tryz.ntmps36
 go_wp2
 go_loopg [3] k (fun kq v3 w' => ∃ (x3_1 : Int),v3 = .int .i64 x3_1 ∧ Aside0 (r1_Len.l0 kq l0 x3_1 = some r) ∧ Aside0 (kq ≤ k) ∧ Drawn0 w w')
 case atStart => exact ⟨(wrap64 (16 * (l0.length : Int))),(by first | rfl | (simp;done) | (simp [*];done)),H',⟨Nat.le_refl _⟩,by repeat (first | exact Drawn0.refl _ | apply Drawn0.step)⟩
 case round =>
  clear H'
  obtain ⟨x3_1,rfl,HA,HK1,⟨m1,rfl⟩⟩ := hrel
  cases gk with
  | zero => exact absurd HA.out (by simp [r1_Len.l0])
  | succ k1 =>
   have H := HA.out
   clear HA
   simp only [r1_Len.l0] at H
   by_cases c2 : x3_1 > 0
   ·rw [if_pos c2] at H
    have c2b0 : decide (0 < x3_1) = true := decide_eq_true c2
    clear c2
    replace H := Option.bind_eq_some_iff.mp H
    obtain ⟨t301,A30,H⟩ := H
    try dsimp only at H
    have A3 := am A30
    clear A30
    by_cases c4 : t301 = 0
    ·rw [if_pos c4] at H
     have c4b0 : (t301 == 0) = true := beq_iff_eq.mpr c4
     have c4b1 : (t301 != 0) = false := bne_eq_false_iff_eq.mpr c4
     clear c4
     have H' := am H
     clear H
     go_wp2_with (first | (go_at_call 54;(with_reducible refine (r1_Bit.calls _ _ l0 (wrap64 (x3_1 - 1)) t301 _ ?side1 ?side2 A3.out).mono ?_);(case side1 => exact pC HR0.out);(case side2 => exact HC0.out);rintro e w' ⟨rfl,⟨nd,rfl⟩⟩))
     go_roundg k1
     case measure => have := HK1.out;omega
     case rel => exact ⟨(wrap64 (x3_1 - 1)),(by first | rfl | (simp;done) | (simp [*];done)),H',⟨by have := HK1.out;omega⟩,by repeat (first | exact Drawn0.refl _ | apply Drawn0.step)⟩
    ·rw [if_neg c4] at H
     have c4b0 : (t301 == 0) = false := beq_eq_false_iff_ne.mpr c4
     have c4b1 : (t301 != 0) = true := bne_iff_ne.mpr c4
     obtain rfl := Option.some.inj H
     go_wp2_with (first | (go_at_call 54;(with_reducible refine (r1_Bit.calls _ _ l0 (wrap64 (x3_1 - 1)) t301 _ ?side1 ?side2 A3.out).mono ?_);(case side1 => exact pC HR0.out);(case side2 => exact HC0.out);rintro e w' ⟨rfl,⟨nd,rfl⟩⟩))
     go_ret
     exact ⟨by first | rfl | (simp;done) | (simp [*];done),by repeat (first | exact Drawn0.refl _ | apply Drawn0.step)⟩
   ·rw [if_neg c2] at H
    have c2b0 : decide (0 < x3_1) = false := decide_eq_false c2
    clear c2
    obtain rfl := Option.some.inj H
    go_wp2
    go_ret
    exact ⟨by first | rfl | (simp;done) | (simp [*];done),by repeat (first | exact Drawn0.refl _ | apply Drawn0.step)⟩
def r1_Up.f (k : Nat) (l0 : List Int) (a1 : Int) : Option (List Int) := if 0 ≤ (wrap64 (Int.tdiv a1 16)) then (if (wrap64 (Int.tdiv a1 16) : Int).toNat ≤ 35184372088832 then ((some (List.replicate (wrap64 (Int.tdiv a1 16) : Int).toNat 0 : List Int)).bind fun y302 => (if y302.length + l0.length < 17592186044416 then (if 0 ≤ (IntKind.u64.wrap (Int.tmod a1 16)) then ((r1_Product.f k (y302 ++ l0) (([shl .u64 1 (IntKind.u64.wrap (Int.tmod a1 16))] : List Int))).bind fun t311 => ((r1_Trim.f k t311).bind fun t314 => (some t314))) else (none)) else (none))) else (none)) else (none)
set_option maxHeartbeats 8000000 in
set_option maxRecDepth 100000 in
theorem r1_Up.calls (k : Nat) (A0 : Option Addr) (c0 : Nat) (l0 : List Int) (a1 : Int) (r : List Int) (w : World) (hr0 : Kd.C (Kd.int .u64) w A0 l0.length l0) (hc0 : l0.length ≤ c0) (h : r1_Up.f k l0 a1 = some r) :
  Calls Tryz.prog 38 #[.slice A0 l0.length c0,.int .i64 a1] w fun e w' => ∃ v0_ : Value,e = .returned (v0_) ∧ Kd.R (Kd.int .u64) 22 w' w.heap.size (fun _ => True) v0_ r ∧ Below w.heap.size w w' := by
 have HR0 := am hr0
 have HC0 := am hc0
 clear hr0 hc0
 have HB := am (Below.refl w.heap.size w)
 have H : (if 0 ≤ (wrap64 (Int.tdiv a1 16)) then (if (wrap64 (Int.tdiv a1 16) : Int).toNat ≤ 35184372088832 then ((some (List.replicate (wrap64 (Int.tdiv a1 16) : Int).toNat 0 : List Int)).bind fun y302 => (if y302.length + l0.length < 17592186044416 then (if 0 ≤ (IntKind.u64.wrap (Int.tmod a1 16)) then ((r1_Product.f k (y302 ++ l0) (([shl .u64 1 (IntKind.u64.wrap (Int.tmod a1 16))] : List Int))).bind fun t311 => ((r1_Trim.f k t311).bind fun t314 => (some t314))) else (none)) else (none))) else (none)) else (none)) = some r := h
 clear h
 obtain ⟨ji3,hji3⟩ : ∃ j_ : Int,(wrap64 (Int.tdiv a1 16)) = j_ := ⟨_,rfl⟩
 replace H : (if 0 ≤ (ji3) then (if (ji3 : Int).toNat ≤ 35184372088832 then ((some (List.replicate (ji3 : Int).toNat 0 : List Int)).bind fun y302 => (if y302.length + l0.length < 17592186044416 then (if 0 ≤ (IntKind.u64.wrap (Int.tmod a1 16)) then ((r1_Product.f k (y302 ++ l0) (([shl .u64 1 (IntKind.u64.wrap (Int.tmod a1 16))] : List Int))).bind fun t311 => ((r1_Trim.f k t311).bind fun t314 => (some t314))) else (none)) else (none))) else (none)) else (none)) = some r := by first | (rw [hji3] at H;exact H) | (simp only [hji3] at H ⊢;exact H)
 have hji3w : (IntKind.i64.wrap (Int.tdiv a1 16)) = ji3 := (i64_w _).trans hji3
 by_cases c4 : 0 ≤ (ji3)
 ·rw [if_pos c4] at H
  have c4b0 := eq_true c4
  have c4b1 : decide (0 ≤ (ji3)) = true := decide_eq_true c4
  clear c4
  by_cases c5 : (ji3 : Int).toNat ≤ 35184372088832
  ·rw [if_pos c5] at H
   have c5b0 := eq_true c5
   have c5b1 : decide ((ji3 : Int).toNat ≤ 35184372088832) = true := decide_eq_true c5
   clear c5
   obtain ⟨y302,hy302⟩ : ∃ y_ : List Int,y_ = (List.replicate (ji3 : Int).toNat 0) := ⟨_,rfl⟩
   replace H : (if y302.length + l0.length < 17592186044416 then (if 0 ≤ (IntKind.u64.wrap (Int.tmod a1 16)) then ((r1_Product.f k (y302 ++ l0) (([shl .u64 1 (IntKind.u64.wrap (Int.tmod a1 16))] : List Int))).bind fun t311 => ((r1_Trim.f k t311).bind fun t314 => (some t314))) else (none)) else (none)) = some r := by first | (rw [hy302];with_reducible exact H) | (have H2_ := (Option.bind_some _ _).symm.trans H;rw [hy302];with_reducible exact H2_) | (have H2_ := (Option.bind_some _ _).symm.trans H;with_reducible exact H2_) | with_reducible exact H | (rw [hy302];exact H) | exact H
   have Ny302 := am hy302
   clear hy302
   by_cases c6 : y302.length + l0.length < 17592186044416
   ·rw [if_pos c6] at H
    have LMc6 := am c6
    clear c6
    obtain ⟨y305,hy305⟩ : ∃ y_ : List Int,y_ = (y302 ++ l0) := ⟨_,rfl⟩
    replace H : (if 0 ≤ (IntKind.u64.wrap (Int.tmod a1 16)) then ((r1_Product.f k y305 (([shl .u64 1 (IntKind.u64.wrap (Int.tmod a1 16))] : List Int))).bind fun t311 => ((r1_Trim.f k t311).bind fun t314 => (some t314))) else (none)) = some r := by first | (rw [hy305];with_reducible exact H) | (have H2_ := (Option.bind_some _ _).symm.trans H;rw [hy305];with_reducible exact H2_) | (have H2_ := (Option.bind_some _ _).symm.trans H;with_reducible exact H2_) | with_reducible exact H | (rw [hy305];exact H) | exact H
    have Ny305 := am hy305
    clear hy305
    obtain ⟨ji7,hji7⟩ : ∃ j_ : Int,(IntKind.u64.wrap (Int.tmod a1 16)) = j_ := ⟨_,rfl⟩
    replace H : (if 0 ≤ (ji7) then ((r1_Product.f k y305 (([shl .u64 1 (ji7)] : List Int))).bind fun t311 => ((r1_Trim.f k t311).bind fun t314 => (some t314))) else (none)) = some r := by first | (rw [hji7] at H;exact H) | (simp only [hji7] at H ⊢;exact H)
    by_cases c8 : 0 ≤ (ji7)
    ·rw [if_pos c8] at H
     have c8b0 := eq_true c8
     have c8b1 : decide (0 ≤ (ji7)) = true := decide_eq_true c8
     clear c8
     obtain ⟨ji9,hji9⟩ : ∃ j_ : Int,(shl .u64 1 (ji7)) = j_ := ⟨_,rfl⟩
     replace H : ((r1_Product.f k y305 (([ji9] : List Int))).bind fun t311 => ((r1_Trim.f k t311).bind fun t314 => (some t314))) = some r := by first | (rw [hji9] at H;exact H) | (simp only [hji9] at H ⊢;exact H)
     have hji9_ : (IntKind.u64.wrap (1 * 2 ^ min (ji7).toNat 64)) = ji9 := hji9
     have hji9z : (ji7) ≤ 64 → (IntKind.u64.wrap (1 * 2 ^ (ji7).toNat)) = ji9 := zXM hji9
     have hji9u : (IntKind.u64.wrap (2 ^ min (ji7).toNat 64)) = ji9 := by have h_ := hji9_;rw [Int.one_mul] at h_;exact h_
     have hji9v : (ji7) ≤ 64 → (IntKind.u64.wrap (2 ^ (ji7).toNat)) = ji9 := fun hle_ => by have h_ := hji9z hle_;rw [Int.one_mul] at h_;exact h_
     obtain ⟨y308,hy308⟩ : ∃ y_ : List Int,y_ = (([ji9] : List Int)) := ⟨_,rfl⟩
     replace H : ((r1_Product.f k y305 y308).bind fun t311 => ((r1_Trim.f k t311).bind fun t314 => (some t314))) = some r := by first | (rw [hy308];with_reducible exact H) | (have H2_ := (Option.bind_some _ _).symm.trans H;rw [hy308];with_reducible exact H2_) | (have H2_ := (Option.bind_some _ _).symm.trans H;with_reducible exact H2_) | with_reducible exact H | (rw [hy308];exact H) | exact H
     have Ny308 := am hy308
     clear hy308
     replace H := Option.bind_eq_some_iff.mp H
     obtain ⟨t311,A100,H⟩ := H
     try dsimp only at H
     have A10 := am A100
     clear A100
     replace H := Option.bind_eq_some_iff.mp H
     obtain ⟨t314,A110,H⟩ := H
     try dsimp only at H
     have A11 := am A110
     clear A110
     obtain rfl := Option.some.inj H
     go_enter Tryz.func38,Tryz.ntmps38
     go_wp2_with (first | ((with_reducible refine zQJ (N := 8) rfl ?_);refine Kd.zWq (Kd.int .u64) _ 22 rfl (N := 8) rfl 59 _ _ rfl ji3 rfl rfl Tryz.underlying59 (.int .u64 0) 8 zXP rfl (by decide) (by omega) 0 (ok := fun _ => True) (okp := fun _ => True) rfl (fun _ hk => hk) trivial pD (Nat.le_trans (Nat.mul_le_mul_right _ (pD : ji3.toNat ≤ 35184372088832)) (by omega)) (Below.refl _ _) (Nat.le_refl _) ?_;intro v303 w12 ho13 hb hg_ hnew_;clear hg_ hnew_;(first | rw [← Ny302.out] at ho13 | (simp only [Int.reduceToNat] at ho13;rw [← Ny302.out] at ho13));have HO304 := am (Kd.zQy ho13 (zQc pB));replace HB := am (zQf pB hb);clear hb ho13) | ((with_reducible refine zQD (b := .append) (xs := #[.tmp 9,.tmp 10]) rfl ?_);at_builtin;refine Kd.zXG (Kd.int .u64) (w0 := w) w.heap.size rfl (.tmp 9) (.tmp 10) 59 22 (.int .u64 0) 8 rfl Tryz.underlying59 zXP rfl (by decide) (by omega) v303 y302 l0 _ _ _ (fun _ => True) (fun _ => False) rfl rfl ?aO ?aR (fun _ _ h => h) (fun _ h => h.elim) ?aF ?aB ?aS ?aL ?_;(case aR => exact pC (Kd.zQO HR0.out HB.out));(case aB => exact pB);(case aF => exact (fun _ _ => trivial));(case aO => exact (pR HO304.out));(case aS => exact (zQc pB));(case aL => have := LMc6.out;omega);intro v306 w14 ho hb hg hat;rw [← Ny305.out] at ho;replace HB := am (hb);have HO307 := am (ho);clear HO304;clear ho hb hg hat) | ((with_reducible refine zQJ (N := 16) rfl ?_);refine Kd.R_lit (Kd.int .u64) _ 22 ?hg (N := 16) ?hd (xs := ([ji9] : List Int)) (inner := [.int .u64 ji9]) (ok := fun _ => True) (okp := fun _ => True) ?hr ?hp (fun _ hk => hk) trivial (Below.refl _ _) (Nat.le_refl _) (by simp) ?_;(case hd => rfl);(case hg => rfl);(case hr => first | (go_simp;done) | (go_simp;rfl));(case hp => exact (Reps.one (show Kd.M (Kd.int .u64) _ _ _ ji9 [.int .u64 ji9] from rfl) (Reps.none _ _)));intro v309 w15 ho16 hb hg_ hnew_;clear hg_ hnew_;(first | rw [← Ny308.out] at ho16 | (simp only [Int.reduceToNat] at ho16;rw [← Ny308.out] at ho16));have HO310 := am (Kd.zQy (Kd.zQC ho16 (Kd.R_lt (pR HO307.out))) (zQc pB));replace HO307 := am (Kd.zQt (pR HO307.out) (Kd.zQs ho16) hb);replace HB := am (zQf pB hb);clear hb ho16;obtain ⟨Ao17,co17,eo17⟩ := Kd.zQB HO307.out;subst eo17;obtain ⟨Ao18,co18,eo18⟩ := Kd.zQB HO310.out;subst eo18) | ((with_reducible refine zQe (f := 34) rfl ?_);refine zQr (some 17) rfl rfl Tryz.func34 (by kernel_rfl) rfl #[.slice Ao17 y305.length co17,.slice Ao18 y308.length co18] rfl pM ?_;(with_reducible refine (r1_Product.calls k _ _ y305 _ _ y308 t311 _ ?side1 ?side2 ?side3 ?side4 A10.out).mono ?_);(case side1 => repeat (first | exact (Kd.zQh HO307.out).2.2 | (with_reducible refine Kd.zQj ?_ _) | (with_reducible refine Kd.zQi ?_ _) | (with_reducible refine Kd.zQv ?_)));(case side2 => exact (Kd.zQh HO307.out).2.1);(case side3 => repeat (first | exact (Kd.zQh HO310.out).2.2 | (with_reducible refine Kd.zQj ?_ _) | (with_reducible refine Kd.zQi ?_ _) | (with_reducible refine Kd.zQv ?_)));(case side4 => exact (Kd.zQh HO310.out).2.1);rintro e w19 ⟨v312,rfl,ho0,hb⟩;refine ⟨_,rfl,?_⟩;have HO313 := am (Kd.zQy (Kd.zQC (Kd.zQC ho0 (Kd.R_lt (pR HO307.out))) (Kd.R_lt (pR HO310.out))) (zQc pB));replace HO307 := am (Kd.zQt (pR HO307.out) (Kd.zQs ho0) hb);replace HO310 := am (Kd.zQt (pR HO310.out) (Kd.zQs ho0) hb);replace HB := am (zQf pB hb);(try clear hb);(try clear ho0);obtain ⟨Ao20,co20,eo20⟩ := Kd.zQB HO313.out;subst eo20) | ((with_reducible refine zQe (f := 65) rfl ?_);refine zQr (some 18) rfl rfl Tryz.func65 (by kernel_rfl) rfl #[.slice Ao20 t311.length co20] rfl pM ?_;(with_reducible refine (r1_Trim.calls k _ _ t311 t314 _ ?side1 ?side2 A11.out).mono ?_);(case side1 => repeat (first | exact (Kd.zQh HO313.out).2.2 | (with_reducible refine Kd.zQj ?_ _) | (with_reducible refine Kd.zQi ?_ _) | (with_reducible refine Kd.zQv ?_)));(case side2 => exact (Kd.zQh HO313.out).2.1);rintro e w21 ⟨v315,rfl,ho0,hb⟩;refine ⟨_,rfl,?_⟩;have HO316 := am (Kd.zQy (Kd.zQC (Kd.zQC (Kd.zQC ho0 (Kd.R_lt (pR HO307.out))) (Kd.R_lt (pR HO310.out))) (Kd.R_lt (pR HO313.out))) (zQc pB));replace HO307 := am (Kd.zQt (pR HO307.out) (Kd.zQs ho0) hb);replace HO310 := am (Kd.zQt (pR HO310.out) (Kd.zQs ho0) hb);replace HO313 := am (Kd.zQt (pR HO313.out) (Kd.zQs ho0) hb);replace HB := am (zQf pB hb);(try clear hb);(try clear ho0)))
     go_ret
     exact ⟨_,by first | rfl | (simp [zQq,zQp] <;> rfl) | (simp only [← hji3,← hji7,← hji9];first | rfl | (simp [zQq,zQp] <;> rfl)) | (simp [*,zQq,zQp] <;> rfl),by (with_reducible repeat (first | apply Kd.zQw | apply Kd.zQu | apply Kd.zQx));exact Kd.zQE HO316.out (fun _ hk => trivial),pB⟩
    ·rw [if_neg c8] at H
     exact absurd H (by simp)
   ·rw [if_neg c6] at H
    exact absurd H (by simp)
  ·rw [if_neg c5] at H
   exact absurd H (by simp)
 ·rw [if_neg c4] at H
  exact absurd H (by simp)
end Go.Proofs.YtflcanpajgpghaaGreatDoor.Pr
end
