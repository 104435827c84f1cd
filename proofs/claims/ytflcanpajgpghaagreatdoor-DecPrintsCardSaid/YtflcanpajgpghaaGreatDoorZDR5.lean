/- A part of the proof of the law that RowDecPrints shows: lemmas, and contracts of the calls that it reaches. -/
import Derived.Test.YtflcanpajgpghaaGreatDoorProg
import Derived.Below
import Derived.Deep.Draws
import Derived.Deep.AppendLies
import Derived.Maps.AppendAt
import Derived.OwnWalk
import Derived.Laws.BytesArg
import Derived.Laws.MakeOwn
import Derived.Laws.OwnMore
import Derived.Deep.OwnRows
import Derived.Tactics
import Derived.Lib.ConvBytes
import Derived.Laws.Slices
import Derived.WalkKit
import Derived.KernelRfl
import Derived.RowKit3
import Derived.Deep.LoopGhost
import Derived.Deep.QuietTactic
import Derived.BigQuiet
import Derived.WideLaws
import Derived.Deep.DeepCutAuto
import Derived.Deep.CutBlock
import Derived.Deep.RegionHeld3
import Derived.Laws.Rows
import Derived.Lib.AppendStr
import Derived.ArgAppend
import Derived.Laws.IdiomCopy
import Derived.OrdersHeld
import Derived.Laws.BitsLemmas
import Derived.RowKit
import Derived.Test.YtflcanpajgpghaaGreatDoorZDR0
import Derived.Test.YtflcanpajgpghaaGreatDoorZDR1
import Derived.Test.YtflcanpajgpghaaGreatDoorZDR2
import Derived.Test.YtflcanpajgpghaaGreatDoorZDR3
import Derived.Test.YtflcanpajgpghaaGreatDoorZDR4
set_option linter.unusedVariables false
set_option linter.unusedSimpArgs false
section
namespace Go.Proofs.YtflcanpajgpghaaGreatDoor.Pr
open Go.RowKit Go.Proofs.YtflcanpajgpghaaGreatDoorW.PrintWords Go.Proofs.YtflcanpajgpghaaGreatDoorW.PrintLast Go.Proofs.YtflcanpajgpghaaGreatDoorW.PrintMore
attribute [local go_sem] zXe zXc zXn zXm zQV zQU zXd zXb
mutual
def r5_Power.l0 : Nat → List Int → List Int → Int → Option (Int)
 | 0,_,_,_ => none
 | k + 1,x0,x1,x5 => (r5_least.f k x0 x1 x5).bind fun t679 => (if t679 = true then (r5_Power.l1 k x0 x1 x5) else (r5_Power.l0 k x0 x1 (wrap64 (x5 - 1))))
def r5_Power.l1 : Nat → List Int → List Int → Int → Option (Int)
 | 0,_,_,_ => none
 | k + 1,x0,x1,x5 => (r5_least.f k x0 x1 (wrap64 (x5 + 1))).bind fun t680 => (if t680 = true then (r5_Power.l1 k x0 x1 (wrap64 (x5 + 1))) else (some x5))
end
def r5_Power.f (k : Nat) (l0 : List Int) (l1 : List Int) : Option (Int) := (r1_Len.f k l0).bind fun t677 => ((r1_Len.f k l1).bind fun t678 => (r5_Power.l0 k l0 l1 (wrap64 (Int.tdiv (wrap64 ((wrap64 (t677 - t678)) * 30103)) 100000))))
set_option maxHeartbeats 8000000 in
set_option maxRecDepth 100000 in
theorem r5_Power.calls (k : Nat) (A0 : Option Addr) (c0 : Nat) (l0 : List Int) (A1 : Option Addr) (c1 : Nat) (l1 : List Int) (r : Int) (w : World) (hr0 : Kd.C (Kd.int .u64) w A0 l0.length l0) (hc0 : l0.length ≤ c0) (hr1 : Kd.C (Kd.int .u64) w A1 l1.length l1) (hc1 : l1.length ≤ c1) (h : r5_Power.f k l0 l1 = some r) :
  Calls Tryz.prog 49 #[.slice A0 l0.length c0,.slice A1 l1.length c1] w fun e w' => e = .returned (.int .i64 r) ∧ Below w.heap.size w w' := by
 have HR0 := am hr0;have HC0 := am hc0;clear hr0 hc0;have HR1 := am hr1;have HC1 := am hc1;clear hr1 hc1;have HB := am (Below.refl w.heap.size w);have H : ((r1_Len.f k l0).bind fun t677 => ((r1_Len.f k l1).bind fun t678 => (r5_Power.l0 k l0 l1 (wrap64 (Int.tdiv (wrap64 ((wrap64 (t677 - t678)) * 30103)) 100000))))) = some r := h;clear h;obtain ⟨t677,A3,H⟩ := oB H;(try dsimp only at H);obtain ⟨t678,A4,H⟩ := oB H;(try dsimp only at H);have H' := am H;clear H;go_enter Tryz.func49,Tryz.ntmps49;go_wp2_with (first | ((with_reducible refine zQb (f := 36) rfl ?_);refine zQi (some 7) rfl rfl Tryz.func36 (by kernel_rfl) rfl #[.slice A0 l0.length c0] rfl pM ?_;(with_reducible refine (r1_Len.calls k _ _ l0 t677 _ ?side1 ?side2 A3.out).mono ?_);(case side1 => exact pC HR0.out);(case side2 => exact HC0.out);rintro e w' ⟨rfl,⟨nd,rfl⟩⟩;refine ⟨_,rfl,?_⟩) | ((with_reducible refine zQb (f := 36) rfl ?_);refine zQi (some 9) rfl rfl Tryz.func36 (by kernel_rfl) rfl #[.slice A1 l1.length c1] rfl pM ?_;(with_reducible refine (r1_Len.calls k _ _ l1 t678 _ ?side1 ?side2 A4.out).mono ?_);(case side1 => exact pC HR1.out);(case side2 => exact HC1.out);rintro e w' ⟨rfl,⟨nd,rfl⟩⟩;refine ⟨_,rfl,?_⟩))
 go_loopg [5] k (fun kq v5 w' => ∃ (x5_1 : Int),v5 = .int .i64 x5_1 ∧ Aside0 (r5_Power.l0 kq l0 l1 x5_1 = some r) ∧ Aside0 (kq ≤ k) ∧ Aside0 (Below w.heap.size w w'))
 case atStart => exact ⟨(wrap64 (Int.tdiv (wrap64 ((wrap64 (t677 - t678)) * 30103)) 100000)),pS,H',⟨Nat.le_refl _⟩,⟨pB⟩⟩
 case round =>
  clear H';(try clear c1);(try clear p2);(try clear c3);(try clear c4);obtain ⟨x5_1,rfl,HA,HK1,HB⟩ := hrel
  cases gk with
  | zero => exact absurd HA.out (by simp [r5_Power.l0])
  | succ k1 =>
   have H := HA.out;clear HA;simp only [r5_Power.l0] at H;obtain ⟨t679,A5,H⟩ := oB H;(try dsimp only at H);by_cases c6 : t679 = true
   ·subst c6;rw [if_pos rfl] at H;have H' := am H;clear H;go_wp2_with (first | ((with_reducible refine zQb (f := 79) rfl ?_);refine zQi (some 16) rfl rfl Tryz.func79 (by kernel_rfl) rfl #[.slice A0 l0.length c0,.slice A1 l1.length c1,.int .i64 x5_1] rfl pM ?_;(with_reducible refine (r5_least.calls k1 _ _ l0 _ _ l1 x5_1 true _ ?side1 ?side2 ?side3 ?side4 A5.out).mono ?_);(case side1 => exact pC (Kd.zQF HR0.out HB.out));(case side2 => exact HC0.out);(case side3 => exact pC (Kd.zQF HR1.out HB.out));(case side4 => exact HC1.out);rintro e w7 ⟨rfl,hb⟩;refine ⟨_,rfl,?_⟩;replace HB := bS hb;(try clear hb)))
    go_loopg [5] k1 (fun kq v5 w' => ∃ (x5_2 : Int),v5 = .int .i64 x5_2 ∧ Aside0 (r5_Power.l1 kq l0 l1 x5_2 = some r) ∧ Aside0 (kq ≤ k1) ∧ Aside0 (Below w.heap.size w w'))
    case atStart => exact ⟨(x5_1),pS,H',⟨Nat.le_refl _⟩,⟨pB⟩⟩
    case round =>
     clear H';(try clear c1);(try clear p2);(try clear c3);(try clear c4);(try clear c6);(try clear p6);(try clear c7);(try clear p2);obtain ⟨x5_2,rfl,HA,HK2,HB⟩ := hrel
     cases gk with
     | zero => exact absurd HA.out (by simp [r5_Power.l1])
     | succ k2 =>
      have H := HA.out;clear HA;simp only [r5_Power.l1] at H;obtain ⟨t680,A8,H⟩ := oB H;(try dsimp only at H);by_cases c9 : t680 = true
      ·subst c9;rw [if_pos rfl] at H;have H' := am H;clear H;go_wp2_with (first | ((with_reducible refine zQb (f := 79) rfl ?_);refine zQi (some 24) rfl rfl Tryz.func79 (by kernel_rfl) rfl #[.slice A0 l0.length c0,.slice A1 l1.length c1,.int .i64 (wrap64 (x5_2 + 1))] rfl pM ?_;(with_reducible refine (r5_least.calls k2 _ _ l0 _ _ l1 (wrap64 (x5_2 + 1)) true _ ?side1 ?side2 ?side3 ?side4 A8.out).mono ?_);(case side1 => exact pC (Kd.zQF HR0.out HB.out));(case side2 => exact HC0.out);(case side3 => exact pC (Kd.zQF HR1.out HB.out));(case side4 => exact HC1.out);rintro e w10 ⟨rfl,hb⟩;refine ⟨_,rfl,?_⟩;replace HB := bS hb;(try clear hb)))
       go_roundg k2
       case measure => have := HK1.out;have := HK2.out;omega
       case rel => exact ⟨(wrap64 (x5_2 + 1)),pS,H',⟨by have := HK1.out;have := HK2.out;omega⟩,⟨pB⟩⟩
      ·replace c9 := Bool.eq_false_iff.mpr c9;subst c9;rw [if_neg (show ¬ (false = true) by decide)] at H;obtain rfl := Option.some.inj H;go_wp2_with (first | ((with_reducible refine zQb (f := 79) rfl ?_);refine zQi (some 24) rfl rfl Tryz.func79 (by kernel_rfl) rfl #[.slice A0 l0.length c0,.slice A1 l1.length c1,.int .i64 (wrap64 (x5_2 + 1))] rfl pM ?_;(with_reducible refine (r5_least.calls k2 _ _ l0 _ _ l1 (wrap64 (x5_2 + 1)) false _ ?side1 ?side2 ?side3 ?side4 A8.out).mono ?_);(case side1 => exact pC (Kd.zQF HR0.out HB.out));(case side2 => exact HC0.out);(case side3 => exact pC (Kd.zQF HR1.out HB.out));(case side4 => exact HC1.out);rintro e w11 ⟨rfl,hb⟩;refine ⟨_,rfl,?_⟩;replace HB := bS hb;(try clear hb)))
       go_ret
       exact ⟨pE,pB⟩
   ·replace c6 := Bool.eq_false_iff.mpr c6;subst c6;rw [if_neg (show ¬ (false = true) by decide)] at H;have H' := am H;clear H;go_wp2_with (first | ((with_reducible refine zQb (f := 79) rfl ?_);refine zQi (some 16) rfl rfl Tryz.func79 (by kernel_rfl) rfl #[.slice A0 l0.length c0,.slice A1 l1.length c1,.int .i64 x5_1] rfl pM ?_;(with_reducible refine (r5_least.calls k1 _ _ l0 _ _ l1 x5_1 false _ ?side1 ?side2 ?side3 ?side4 A5.out).mono ?_);(case side1 => exact pC (Kd.zQF HR0.out HB.out));(case side2 => exact HC0.out);(case side3 => exact pC (Kd.zQF HR1.out HB.out));(case side4 => exact HC1.out);rintro e w12 ⟨rfl,hb⟩;refine ⟨_,rfl,?_⟩;replace HB := bS hb;(try clear hb)))
    go_roundg k1
    case measure => have := HK1.out;omega
    case rel => exact ⟨(wrap64 (x5_1 - 1)),pS,H',⟨by have := HK1.out;omega⟩,⟨pB⟩⟩
def r5_digitsOf.f (k : Nat) (l0 : List Int) (l1 : List Int) (a2 : Int) (a3 : Int) : Option (List Int × List Int × List Int) := if (wrap64 ((wrap64 (a3 - 1)) - a2)) ≥ 0 then ((r5_Ten.f k (wrap64 ((wrap64 (a3 - 1)) - a2))).bind fun t681 => ((r1_Product.f k l0 t681).bind fun t684 => ((r1_Divide.f k t684 l1).bind fun bt687 => (some (bt687.1,bt687.2,l1))))) else ((r5_Ten.f k (wrap64 (-(wrap64 ((wrap64 (a3 - 1)) - a2))))).bind fun t693 => ((r1_Product.f k l1 t693).bind fun t696 => ((r1_Divide.f k l0 t696).bind fun bt699 => (some (bt699.1,bt699.2,t696)))))
set_option maxHeartbeats 8000000 in
set_option maxRecDepth 100000 in
theorem r5_digitsOf.calls (k : Nat) (A0 : Option Addr) (c0 : Nat) (l0 : List Int) (P1_ : Nat → Prop) (A1 : Option Addr) (c1 : Nat) (l1 : List Int) (a2 : Int) (a3 : Int) (r1 : List Int) (r2 : List Int) (r3 : List Int) (w : World) (hr0 : Kd.C (Kd.int .u64) w A0 l0.length l0) (hc0 : l0.length ≤ c0) (hs1 : Kd.V (Kd.int .u64) 22 w w.heap.size (fun k_ => P1_ k_) (.slice A1 l1.length c1) l1) (h : r5_digitsOf.f k l0 l1 a2 a3 = some (r1,r2,r3)) :
  Calls Tryz.prog 50 #[.slice A0 l0.length c0,.slice A1 l1.length c1,.int .i64 a2,.int .i64 a3] w fun e w' => ∃ v0_ v1_ v2_ : Value,e = .returned (.tuple #[v0_,v1_,v2_]) ∧ Kd.R (Kd.int .u64) 22 w' w.heap.size (fun k_ => (w.heap.size ≤ k_) ∧ some k_ ≠ (v1_ : Value).ownBlock) v0_ r1 ∧ Kd.R (Kd.int .u64) 22 w' w.heap.size (fun k_ => (w.heap.size ≤ k_) ∧ some k_ ≠ (v0_ : Value).ownBlock) v1_ r2 ∧ Kd.V (Kd.int .u64) 22 w' w.heap.size (fun k_ => (P1_ k_ ∨ w.heap.size ≤ k_) ∧ some k_ ≠ (v0_ : Value).ownBlock ∧ some k_ ≠ (v1_ : Value).ownBlock) v2_ r3 ∧ Below w.heap.size w w' := by
 have HR0 := am hr0;have HC0 := am hc0;clear hr0 hc0;have HO1 := am (show Kd.V (Kd.int .u64) 22 w w.heap.size (fun k_ => (P1_ k_ ∨ w.heap.size ≤ k_)) (.slice A1 l1.length c1) l1 from Kd.zQh hs1 (fun k_ hk => .inl hk));have HB := am (Below.refl w.heap.size w);have H : (if (wrap64 ((wrap64 (a3 - 1)) - a2)) ≥ 0 then ((r5_Ten.f k (wrap64 ((wrap64 (a3 - 1)) - a2))).bind fun t681 => ((r1_Product.f k l0 t681).bind fun t684 => ((r1_Divide.f k t684 l1).bind fun bt687 => (some (bt687.1,bt687.2,l1))))) else ((r5_Ten.f k (wrap64 (-(wrap64 ((wrap64 (a3 - 1)) - a2))))).bind fun t693 => ((r1_Product.f k l1 t693).bind fun t696 => ((r1_Divide.f k l0 t696).bind fun bt699 => (some (bt699.1,bt699.2,t696)))))) = some (r1,r2,r3) := h;clear h;by_cases c5 : (wrap64 ((wrap64 (a3 - 1)) - a2)) ≥ 0
 ·rw [if_pos c5] at H;have c5b0 : decide (0 ≤ (wrap64 ((wrap64 (a3 - 1)) - a2))) = true := decide_eq_true c5;clear c5;obtain ⟨t681,A6,H⟩ := oB H;(try dsimp only at H);obtain ⟨t684,A7,H⟩ := oB H;(try dsimp only at H);obtain ⟨⟨t687,t688⟩,A8,H⟩ := oB H;(try dsimp only at H);simp only [Option.some.injEq,Prod.mk.injEq] at H;obtain ⟨rfl,rfl,rfl⟩ := H;go_enter Tryz.func50,Tryz.ntmps50;go_wp2_with (first | ((with_reducible refine zQb (f := 35) rfl ?_);refine zQi (some 22) rfl rfl Tryz.func35 (by kernel_rfl) rfl #[.int .i64 (wrap64 ((wrap64 (a3 - 1)) - a2))] rfl pM ?_;(with_reducible refine (r5_Ten.calls k (wrap64 ((wrap64 (a3 - 1)) - a2)) t681 _ A6.out).mono ?_);rintro e w9 ⟨v682,rfl,ho0,hb⟩;refine ⟨_,rfl,?_⟩;replace HO1 := am (Kd.zQH (pV HO1.out) (Kd.zQn ho0) hb);have HO683 := am (Kd.zQr (Kd.zXv (M := fun k_ => (w.heap.size ≤ k_)) ho0 (zQa pB) (fun k_ h_ => h_)) (zQa pB));replace HB := bS hb;(try clear hb);(try clear ho0);obtain ⟨Ao10,co10,eo10⟩ := Kd.zQv HO683.out;subst eo10) | ((with_reducible refine zQb (f := 34) rfl ?_);refine zQi (some 23) rfl rfl Tryz.func34 (by kernel_rfl) rfl #[.slice A0 l0.length c0,.slice Ao10 t681.length co10] rfl pM ?_;(with_reducible refine (r1_Product.calls k _ _ l0 _ _ t681 t684 _ ?side1 ?side2 ?side3 ?side4 A7.out).mono ?_);(case side1 => exact pC (Kd.zQF HR0.out HB.out));(case side2 => exact HC0.out);(case side3 => exact pC (Kd.zQe HO683.out).2.2);(case side4 => exact (Kd.zQe HO683.out).2.1);rintro e w11 ⟨v685,rfl,ho0,hb⟩;refine ⟨_,rfl,?_⟩;replace HO1 := am (Kd.zQH (pV HO1.out) (Kd.zQn ho0) hb);have HO686 := am (Kd.zQr (Kd.zQt (Kd.zXv (M := fun k_ => (w.heap.size ≤ k_)) ho0 (zQa pB) (fun k_ h_ => h_)) (Kd.R_lt (pR HO683.out))) (zQa pB));replace HO683 := am (Kd.zQl (pR HO683.out) (Kd.zQn ho0) hb);replace HB := bS hb;(try clear hb);(try clear ho0);obtain ⟨Ao12,co12,eo12⟩ := Kd.zQv HO686.out;subst eo12) | ((with_reducible refine zQb (f := 37) rfl ?_);refine zQi (some 32) rfl rfl Tryz.func37 (by kernel_rfl) rfl #[.slice Ao12 t684.length co12,.slice A1 l1.length c1] rfl pM ?_;(with_reducible refine (r1_Divide.calls k _ _ t684 _ _ l1 t687 t688 _ ?side1 ?side2 ?side3 ?side4 A8.out).mono ?_);(case side1 => exact pC (Kd.zQe HO686.out).2.2);(case side2 => exact (Kd.zQe HO686.out).2.1);(case side3 => exact pC (Kd.zQg HO1.out).2.2);(case side4 => exact (Kd.zQg HO1.out).2.1);rintro e w13 ⟨v689,v691,rfl,ho0,ho1,hb⟩;refine ⟨_,rfl,?_⟩;replace HO1 := am (Kd.zQh (Kd.zKX (Kd.zKX (Kd.V_old (pV HO1.out) hb) (Kd.zQn ho0)) (Kd.zQn ho1)) (fun _ h_ => h_.1));have HO690 := am (Kd.zQr (Kd.zQt (Kd.zQt (Kd.zXv (M := fun k_ => (w.heap.size ≤ k_)) ho0 (zQa pB) (fun k_ h_ => h_)) (Kd.R_lt (pR HO683.out))) (Kd.R_lt (pR HO686.out))) (zQa pB));have HO692 := am (Kd.zQr (Kd.zQt (Kd.zQt (Kd.zXv (M := fun k_ => (w.heap.size ≤ k_)) ho1 (zQa pB) (fun k_ h_ => h_)) (Kd.R_lt (pR HO683.out))) (Kd.R_lt (pR HO686.out))) (zQa pB));replace HO683 := am (Kd.zQu (Kd.zXu (Kd.zXu (Kd.R_old (pR HO683.out) hb) (Kd.zQn ho0)) (Kd.zQn ho1)) (fun _ h_ => h_.1));replace HO686 := am (Kd.zQu (Kd.zXu (Kd.zXu (Kd.R_old (pR HO686.out) hb) (Kd.zQn ho0)) (Kd.zQn ho1)) (fun _ h_ => h_.1));replace HB := bS hb;(try clear hb);(try clear ho0);(try clear ho1)))
  go_ret3
  exact ⟨_,_,_,pE,by (with_reducible repeat (first | apply Kd.zQo | apply Kd.zQj | apply Kd.zQs));exact Kd.zQu HO690.out (fun _ hk => ⟨hk.1.1.1,hk.1.1.2⟩),by (with_reducible repeat (first | apply Kd.zQo | apply Kd.zQj | apply Kd.zQs));exact Kd.zQu HO692.out (fun _ hk => ⟨hk.1.1.1,hk.1.1.2⟩),by (with_reducible repeat (first | apply Kd.zQp | apply Kd.zQm | apply Kd.zQq));exact Kd.zQh HO1.out (fun _ hk => ⟨hk.1.1.1.1,⟨hk.1.2,hk.2⟩⟩),pB⟩
 ·rw [if_neg c5] at H;have c5b0 : decide (0 ≤ (wrap64 ((wrap64 (a3 - 1)) - a2))) = false := decide_eq_false c5;clear c5;obtain ⟨t693,A14,H⟩ := oB H;(try dsimp only at H);obtain ⟨t696,A15,H⟩ := oB H;(try dsimp only at H);obtain ⟨⟨t699,t700⟩,A16,H⟩ := oB H;(try dsimp only at H);simp only [Option.some.injEq,Prod.mk.injEq] at H;obtain ⟨rfl,rfl,rfl⟩ := H;go_enter Tryz.func50,Tryz.ntmps50;go_wp2_with (first | ((with_reducible refine zQb (f := 35) rfl ?_);refine zQi (some 27) rfl rfl Tryz.func35 (by kernel_rfl) rfl #[.int .i64 (wrap64 (-(wrap64 ((wrap64 (a3 - 1)) - a2))))] rfl pM ?_;(with_reducible refine (r5_Ten.calls k (wrap64 (-(wrap64 ((wrap64 (a3 - 1)) - a2)))) t693 _ A14.out).mono ?_);rintro e w17 ⟨v694,rfl,ho0,hb⟩;refine ⟨_,rfl,?_⟩;replace HO1 := am (Kd.zQH (pV HO1.out) (Kd.zQn ho0) hb);have HO695 := am (Kd.zQr (Kd.zXv (M := fun k_ => (w.heap.size ≤ k_)) ho0 (zQa pB) (fun k_ h_ => h_)) (zQa pB));replace HB := bS hb;(try clear hb);(try clear ho0);obtain ⟨Ao18,co18,eo18⟩ := Kd.zQv HO695.out;subst eo18) | ((with_reducible refine zQb (f := 34) rfl ?_);refine zQi (some 28) rfl rfl Tryz.func34 (by kernel_rfl) rfl #[.slice A1 l1.length c1,.slice Ao18 t693.length co18] rfl pM ?_;(with_reducible refine (r1_Product.calls k _ _ l1 _ _ t693 t696 _ ?side1 ?side2 ?side3 ?side4 A15.out).mono ?_);(case side1 => exact pC (Kd.zQg HO1.out).2.2);(case side2 => exact (Kd.zQg HO1.out).2.1);(case side3 => exact pC (Kd.zQe HO695.out).2.2);(case side4 => exact (Kd.zQe HO695.out).2.1);rintro e w19 ⟨v697,rfl,ho0,hb⟩;refine ⟨_,rfl,?_⟩;replace HO1 := am (Kd.zQH (pV HO1.out) (Kd.zQn ho0) hb);have HO698 := am (Kd.zQr (Kd.zQt (Kd.zXv (M := fun k_ => (w.heap.size ≤ k_)) ho0 (zQa pB) (fun k_ h_ => h_)) (Kd.R_lt (pR HO695.out))) (zQa pB));replace HO695 := am (Kd.zQl (pR HO695.out) (Kd.zQn ho0) hb);replace HB := bS hb;(try clear hb);(try clear ho0);obtain ⟨Ao20,co20,eo20⟩ := Kd.zQv HO698.out;subst eo20) | ((with_reducible refine zQb (f := 37) rfl ?_);refine zQi (some 32) rfl rfl Tryz.func37 (by kernel_rfl) rfl #[.slice A0 l0.length c0,.slice Ao20 t696.length co20] rfl pM ?_;(with_reducible refine (r1_Divide.calls k _ _ l0 _ _ t696 t699 t700 _ ?side1 ?side2 ?side3 ?side4 A16.out).mono ?_);(case side1 => exact pC (Kd.zQF HR0.out HB.out));(case side2 => exact HC0.out);(case side3 => exact pC (Kd.zQe HO698.out).2.2);(case side4 => exact (Kd.zQe HO698.out).2.1);rintro e w21 ⟨v701,v703,rfl,ho0,ho1,hb⟩;refine ⟨_,rfl,?_⟩;replace HO1 := am (Kd.zQh (Kd.zKX (Kd.zKX (Kd.V_old (pV HO1.out) hb) (Kd.zQn ho0)) (Kd.zQn ho1)) (fun _ h_ => h_.1));have HO702 := am (Kd.zQr (Kd.zQt (Kd.zQt (Kd.zXv (M := fun k_ => (w.heap.size ≤ k_)) ho0 (zQa pB) (fun k_ h_ => h_)) (Kd.R_lt (pR HO695.out))) (Kd.R_lt (pR HO698.out))) (zQa pB));have HO704 := am (Kd.zQr (Kd.zQt (Kd.zQt (Kd.zXv (M := fun k_ => (w.heap.size ≤ k_)) ho1 (zQa pB) (fun k_ h_ => h_)) (Kd.R_lt (pR HO695.out))) (Kd.R_lt (pR HO698.out))) (zQa pB));replace HO695 := am (Kd.zQu (Kd.zXu (Kd.zXu (Kd.R_old (pR HO695.out) hb) (Kd.zQn ho0)) (Kd.zQn ho1)) (fun _ h_ => h_.1));replace HO698 := am (Kd.zQu (Kd.zXu (Kd.zXu (Kd.R_old (pR HO698.out) hb) (Kd.zQn ho0)) (Kd.zQn ho1)) (fun _ h_ => h_.1));replace HB := bS hb;(try clear hb);(try clear ho0);(try clear ho1)))
  go_ret3
  exact ⟨_,_,_,pE,by (with_reducible repeat (first | apply Kd.zQo | apply Kd.zQj | apply Kd.zQs));exact Kd.zQu HO702.out (fun _ hk => ⟨hk.1.1.1,hk.1.1.2⟩),by (with_reducible repeat (first | apply Kd.zQo | apply Kd.zQj | apply Kd.zQs));exact Kd.zQu HO704.out (fun _ hk => ⟨hk.1.1.1,hk.1.1.2⟩),by exact Kd.zQh (Kd.R_V HO698.out) (fun k_ hk => ⟨.inr hk.1.1.1.1,hk.1.2,hk.2⟩),pB⟩
def r5_numeral.l0 : Nat → List Int → ByteArray → Option (ByteArray)
 | 0,_,_ => none
 | k + 1,x0,x3 => if (x0.length : Int) > 0 then ((r1_Divide.f k x0 (([10] : List Int))).bind fun bt708 => ((r1_Small.f bt708.2).bind fun t714 => ((some (([(48 + ((t714) % 256)) % 256] : List Int) : List Int)).bind fun y715 => (if (strOfNums y715).size + x3.size ≤ 9223372036854775807 then (r5_numeral.l0 k bt708.1 ((strOfNums y715) ++ x3)) else (none))))) else (some x3)
def r5_numeral.f (k : Nat) (l0 : List Int) : Option (ByteArray) := r5_numeral.l0 k l0 (⟨#[]⟩ : ByteArray)
set_option maxHeartbeats 8000000 in
set_option maxRecDepth 100000 in
theorem r5_numeral.calls (k : Nat) (P0_ : Nat → Prop) (A0 : Option Addr) (c0 : Nat) (l0 : List Int) (r : ByteArray) (w : World) (hs0 : Kd.V (Kd.int .u64) 22 w w.heap.size (fun k_ => P0_ k_) (.slice A0 l0.length c0) l0) (h : r5_numeral.f k l0 = some r) :
  Calls Tryz.prog 52 #[.slice A0 l0.length c0] w fun e w' => e = .returned (.string r) ∧ Below w.heap.size w w' := by
 have HO0 := am (show Kd.V (Kd.int .u64) 22 w w.heap.size (fun k_ => (P0_ k_ ∨ w.heap.size ≤ k_)) (.slice A0 l0.length c0) l0 from Kd.zQh hs0 (fun k_ hk => .inl hk));have HB := am (Below.refl w.heap.size w);have H : (r5_numeral.l0 k l0 (⟨#[]⟩ : ByteArray)) = some r := h;clear h;have H' := am H;clear H;go_enter Tryz.func52,Tryz.ntmps52;go_wp2
 go_loopg [0,3] k (fun kq v0 v3 w' => ∃ (x0_1 : List Int) (x3_1 : ByteArray),v3 = .string x3_1 ∧ Aside0 (r5_numeral.l0 kq x0_1 x3_1 = some r) ∧ Aside0 (kq ≤ k) ∧ Aside0 (Kd.V (Kd.int .u64) 22 w' w.heap.size (fun k_ => (P0_ k_ ∨ w.heap.size ≤ k_)) v0 x0_1) ∧ Aside0 (Below w.heap.size w w'))
 case atStart => exact ⟨(l0),((⟨#[]⟩ : ByteArray)),pS,H',⟨Nat.le_refl _⟩,⟨by (with_reducible repeat (first | apply Kd.zQp | apply Kd.zQm | apply Kd.zQq));exact HO0.out⟩,⟨pB⟩⟩
 case round =>
  clear H';obtain ⟨x0_1,x3_1,rfl,HA,HK1,HO_0,HB⟩ := hrel
  cases gk with
  | zero => exact absurd HA.out (by simp [r5_numeral.l0])
  | succ k1 =>
   have H := HA.out;clear HA;simp only [r5_numeral.l0] at H;by_cases c2 : (x0_1.length : Int) > 0
   ·rw [if_pos c2] at H;have c2b0 : decide (0 < (x0_1.length : Int)) = true := decide_eq_true c2;have c2b1 : decide (0 < x0_1.length) = true := decide_eq_true (by omega);clear c2;obtain ⟨y705,hy705⟩ : ∃ y_ : List Int,y_ = (([10] : List Int)) := ⟨_,rfl⟩;(replace H : ((r1_Divide.f k1 x0_1 y705).bind fun bt708 => ((r1_Small.f bt708.2).bind fun t714 => ((some (([(48 + ((t714) % 256)) % 256] : List Int) : List Int)).bind fun y715 => (if (strOfNums y715).size + x3_1.size ≤ 9223372036854775807 then (r5_numeral.l0 k1 bt708.1 ((strOfNums y715) ++ x3_1)) else (none))))) = some r := by first | (rw [hy705];with_reducible exact H) | (have H2_ := (Option.bind_some _ _).symm.trans H;rw [hy705];with_reducible exact H2_) | (have H2_ := (Option.bind_some _ _).symm.trans H;with_reducible exact H2_) | with_reducible exact H | (rw [hy705];exact H) | exact H);have Ny705 := am hy705;clear hy705;obtain ⟨⟨t708,t709⟩,A3,H⟩ := oB H;(try dsimp only at H);obtain ⟨t714,A4,H⟩ := oB H;(try dsimp only at H);obtain ⟨y715,hy715⟩ : ∃ y_ : List Int,y_ = (([(48 + ((t714) % 256)) % 256] : List Int)) := ⟨_,rfl⟩;(replace H : (if (strOfNums y715).size + x3_1.size ≤ 9223372036854775807 then (r5_numeral.l0 k1 t708 ((strOfNums y715) ++ x3_1)) else (none)) = some r := by first | (rw [hy715];with_reducible exact H) | (have H2_ := (Option.bind_some _ _).symm.trans H;rw [hy715];with_reducible exact H2_) | (have H2_ := (Option.bind_some _ _).symm.trans H;with_reducible exact H2_) | with_reducible exact H | (rw [hy715];exact H) | exact H);have Ny715 := am hy715;clear hy715;by_cases c5 : (strOfNums y715).size + x3_1.size ≤ 9223372036854775807
    ·rw [if_pos c5] at H;have c5b0 := eq_true c5;have c5b1 : decide ((strOfNums y715).size + x3_1.size ≤ 9223372036854775807) = true := decide_eq_true c5;(try have c5b2 : (9223372036854775807 < (strOfNums y715).size + x3_1.size) = False := eq_false (Nat.not_lt.2 c5));have H' := am H;clear H;obtain ⟨Ao6,co6,eo6⟩ := Kd.zQA HO_0.out;subst eo6;go_wp2_with (first | ((with_reducible refine zQE (N := 11) rfl ?_);refine Kd.R_lit (Kd.int .u64) _ 22 ?hg (N := 11) ?hd (xs := ([10] : List Int)) (inner := [.int .u64 10]) (ok := fun _ => True) (okp := fun _ => True) ?hr ?hp (fun _ hk => hk) trivial (Below.refl _ _) (Nat.le_refl _) (by simp) ?_;(case hd => rfl);(case hg => rfl);(case hr => first | (go_simp;done) | (go_simp;rfl));(case hp => exact (Reps.one (show Kd.M (Kd.int .u64) _ _ _ 10 [.int .u64 10] from rfl) (Reps.none _ _)));intro v706 w7 ho8 hb hg_ hnew_;clear hg_ hnew_;(first | rw [← Ny705.out] at ho8 | (simp only [Int.reduceToNat] at ho8;rw [← Ny705.out] at ho8));replace HO_0 := am (Kd.zQH (pV HO_0.out) (Kd.zQn ho8) hb);have HO707 := am (Kd.zQr (Kd.zXv (M := fun k_ => (w.heap.size ≤ k_)) ho8 (zQa pB) (fun k_ h_ => h_)) (zQa pB));replace HB := bS hb;clear hb ho8;obtain ⟨Ao9,co9,eo9⟩ := Kd.zQv HO707.out;subst eo9) | ((with_reducible refine zQb (f := 37) rfl ?_);refine zQi (some 12) rfl rfl Tryz.func37 (by kernel_rfl) rfl #[.slice Ao6 x0_1.length co6,.slice Ao9 y705.length co9] rfl pM ?_;(with_reducible refine (r1_Divide.calls k1 _ _ x0_1 _ _ y705 t708 t709 _ ?side1 ?side2 ?side3 ?side4 A3.out).mono ?_);(case side1 => exact pC (Kd.zQg HO_0.out).2.2);(case side2 => exact (Kd.zQg HO_0.out).2.1);(case side3 => exact pC (Kd.zQe HO707.out).2.2);(case side4 => exact (Kd.zQe HO707.out).2.1);rintro e w10 ⟨v710,v712,rfl,ho0,ho1,hb⟩;refine ⟨_,rfl,?_⟩;replace HO_0 := am (Kd.zQh (Kd.zKX (Kd.zKX (Kd.V_old (pV HO_0.out) hb) (Kd.zQn ho0)) (Kd.zQn ho1)) (fun _ h_ => h_.1));have HO711 := am (Kd.zQr (Kd.zQt (Kd.zXv (M := fun k_ => (w.heap.size ≤ k_)) ho0 (zQa pB) (fun k_ h_ => h_)) (Kd.R_lt (pR HO707.out))) (zQa pB));have HO713 := am (Kd.zQr (Kd.zQt (Kd.zXv (M := fun k_ => (w.heap.size ≤ k_)) ho1 (zQa pB) (fun k_ h_ => h_)) (Kd.R_lt (pR HO707.out))) (zQa pB));replace HO707 := am (Kd.zQu (Kd.zXu (Kd.zXu (Kd.R_old (pR HO707.out) hb) (Kd.zQn ho0)) (Kd.zQn ho1)) (fun _ h_ => h_.1));replace HB := bS hb;(try clear hb);(try clear ho0);(try clear ho1);obtain ⟨Ao11,co11,eo11⟩ := Kd.zQv HO713.out;subst eo11) | ((with_reducible refine zQb (f := 64) rfl ?_);refine zQi (some 16) rfl rfl Tryz.func64 (by kernel_rfl) rfl #[.slice Ao11 t709.length co11] rfl pM ?_;(with_reducible refine (r1_Small.calls _ _ t709 t714 _ ?side1 ?side2 A4.out).mono ?_);(case side1 => exact pC (Kd.zQe HO713.out).2.2);(case side2 => exact (Kd.zQe HO713.out).2.1);rintro e w' ⟨rfl,⟨nd,rfl⟩⟩;refine ⟨_,rfl,?_⟩) | ((with_reducible refine zQE (N := 19) rfl ?_);refine Kd.R_lit (Kd.int .u8) _ 5 ?hg (N := 19) ?hd (xs := ([(48 + ((t714) % 256)) % 256] : List Int)) (inner := [.int .u8 ((48 + ((t714) % 256)) % 256)]) (ok := fun _ => True) (okp := fun _ => True) ?hr ?hp (fun _ hk => hk) trivial (Below.refl _ _) (Nat.le_refl _) (by simp) ?_;(case hd => rfl);(case hg => rfl);(case hr => first | (go_simp;done) | (go_simp;rfl));(case hp => exact (Reps.one (show Kd.M (Kd.int .u8) _ _ _ ((48 + ((t714) % 256)) % 256) [.int .u8 ((48 + ((t714) % 256)) % 256)] from rfl) (Reps.none _ _)));intro v716 w12 ho13 hb hg_ hnew_;clear hg_ hnew_;(first | rw [← Ny715.out] at ho13 | (simp only [Int.reduceToNat] at ho13;rw [← Ny715.out] at ho13));replace HO_0 := am (Kd.zQH (pV HO_0.out) (Kd.zQn ho13) hb);replace HO707 := am (Kd.zQw (pR HO707.out) hb);replace HO711 := am (Kd.zQw (pR HO711.out) hb);replace HO713 := am (Kd.zQw (pR HO713.out) hb);have HO717 := am (Kd.zQr (Kd.zXv (M := fun k_ => (w.heap.size ≤ k_)) ho13 (zQa pB) (fun k_ h_ => h_)) (zQa pB));replace HB := bS hb;clear hb ho13;have hcv14 := zXS (P := Tryz.prog) Tryz.underlying75 Tryz.underlying5 Tryz.underlying9 (Kd.zYe HO717.out);try have hcq15 := fun n_ : Nat => zXS (P := Tryz.prog) Tryz.underlying75 Tryz.underlying5 Tryz.underlying9 (Kd.zYe (Kd.zQj HO717.out n_))))
     go_roundg k1
     case measure => have := HK1.out;omega
     case rel => exact ⟨(t708),((strOfNums y715) ++ x3_1),pS,H',⟨by have := HK1.out;omega⟩,⟨Kd.zQh (Kd.R_V (by (with_reducible repeat (first | apply Kd.zQo | apply Kd.zQj | apply Kd.zQs));exact Kd.zQu HO711.out (fun _ hk => hk.1.1))) (fun k_ hk => by first | exact ⟨(.inr (hk.1)),hk.2⟩ | exact (.inr (hk)))⟩,⟨pB⟩⟩
    ·rw [if_neg c5] at H
     cases H
   ·rw [if_neg c2] at H;have c2b0 : decide (0 < (x0_1.length : Int)) = false := decide_eq_false c2;have c2b1 : decide (0 < x0_1.length) = false := decide_eq_false (by omega);clear c2;obtain rfl := Option.some.inj H;obtain ⟨Ao16,co16,eo16⟩ := Kd.zQA HO_0.out;subst eo16;go_wp2
    go_ret
    exact ⟨pE,pB⟩
def r5_trim.l0 : Nat → ByteArray → Int → Option (ByteArray)
 | 0,_,_ => none
 | k + 1,x0,x3 => if x3 > 1 then (if 0 ≤ (wrap64 (x3 - 1)) then (if (wrap64 (x3 - 1)) < (x0.size : Int) then (if (bt x0 (wrap64 (x3 - 1))) = 48 then (r5_trim.l0 k x0 (wrap64 (x3 - 1))) else (if 0 ≤ x3 then (if x3 ≤ (x0.size : Int) then (some (x0.extract 0 (x3 : Int).toNat)) else (none)) else (none))) else (none)) else (none)) else (if 0 ≤ x3 then (if x3 ≤ (x0.size : Int) then (some (x0.extract 0 (x3 : Int).toNat)) else (none)) else (none))
def r5_trim.f (k : Nat) (a0 : ByteArray) : Option (ByteArray) := r5_trim.l0 k a0 (a0.size : Int)
set_option maxHeartbeats 8000000 in
set_option maxRecDepth 100000 in
theorem r5_trim.calls (k : Nat) (a0 : ByteArray) (r : ByteArray) (w : World) (h : r5_trim.f k a0 = some r) :
  Calls Tryz.prog 55 #[.string a0] w fun e w' => e = .returned (.string r) ∧ Drawn0 w w' := by
 have H : (r5_trim.l0 k a0 (a0.size : Int)) = some r := h;clear h;have H' := am H;clear H;go_enter Tryz.func55,Tryz.ntmps55;go_wp2
 go_loopg [3] k (fun kq v3 w' => ∃ (x3_1 : Int),v3 = .int .i64 x3_1 ∧ Aside0 (r5_trim.l0 kq a0 x3_1 = some r) ∧ Aside0 (kq ≤ k) ∧ Drawn0 w w')
 case atStart => exact ⟨((a0.size : Int)),pS,H',⟨Nat.le_refl _⟩,pQ0⟩
 case round =>
  clear H';obtain ⟨x3_1,rfl,HA,HK1,⟨m1,rfl⟩⟩ := hrel
  cases gk with
  | zero => exact absurd HA.out (by simp [r5_trim.l0])
  | succ k1 =>
   have H := HA.out;clear HA;simp only [r5_trim.l0] at H;by_cases c2 : x3_1 > 1
   ·rw [if_pos c2] at H;have c2b0 : decide (1 < x3_1) = true := decide_eq_true c2;clear c2;obtain ⟨ji3,hji3⟩ : ∃ j_ : Int,(wrap64 (x3_1 - 1)) = j_ := ⟨_,rfl⟩;(replace H : (if 0 ≤ (ji3) then (if (ji3) < (a0.size : Int) then (if (bt a0 (ji3)) = 48 then (r5_trim.l0 k1 a0 ji3) else (if 0 ≤ x3_1 then (if x3_1 ≤ (a0.size : Int) then (some (a0.extract 0 (x3_1 : Int).toNat)) else (none)) else (none))) else (none)) else (none)) = some r := by first | (rw [hji3] at H;exact H) | (simp only [hji3] at H ⊢;exact H));have hji3w : (IntKind.i64.wrap (x3_1 - 1)) = ji3 := (i64_w _).trans hji3;by_cases c4 : 0 ≤ (ji3)
    ·rw [if_pos c4] at H;have c4b0 : decide (0 ≤ (ji3)) = true := decide_eq_true c4;clear c4;by_cases c5 : (ji3) < (a0.size : Int)
     ·rw [if_pos c5] at H;have c5b0 : decide ((ji3) < (a0.size : Int)) = true := decide_eq_true c5;clear c5;by_cases c7 : (bt a0 (ji3)) = 48
      ·rw [if_pos c7] at H;have c7b0 : ((bt a0 (ji3)) == 48) = true := beq_iff_eq.mpr c7;have c7b1 : ((bt a0 (ji3)) != 48) = false := bne_eq_false_iff_eq.mpr c7;clear c7;have H' := am H;clear H;have p6 : 0 ≤ ((ji3) : Int) := pD;have q6 : (ji3) < (a0.size : Int) := pD;have hx6 := bt_at a0 (ji3);replace p6 := eq_true p6;replace q6 := eq_true q6;go_wp2
       go_roundg k1
       case measure => have := HK1.out;omega
       case rel => exact ⟨(ji3),(by first | rfl | (simp;done) | (simp only [← hji3] <;> (first | rfl | simp)) | (simp [*];done)),H',⟨by have := HK1.out;omega⟩,pQ0⟩
      ·rw [if_neg c7] at H;have c7b0 : ((bt a0 (ji3)) == 48) = false := beq_eq_false_iff_ne.mpr c7;have c7b1 : ((bt a0 (ji3)) != 48) = true := bne_iff_ne.mpr c7;by_cases c8 : 0 ≤ x3_1
       ·rw [if_pos c8] at H;have c8b0 := eq_true c8;have c8b1 : decide (0 ≤ x3_1) = true := decide_eq_true c8;clear c8;by_cases c9 : x3_1 ≤ (a0.size : Int)
        ·rw [if_pos c9] at H;have c9b0 := eq_true c9;have c9b1 : decide (x3_1 ≤ (a0.size : Int)) = true := decide_eq_true c9;clear c9;obtain ⟨ji10,hji10⟩ : ∃ j_ : ByteArray,(a0.extract 0 (x3_1 : Int).toNat) = j_ := ⟨_,rfl⟩;(replace H : (some ji10) = some r := by first | (rw [hji10] at H;exact H) | (simp only [hji10] at H ⊢;exact H) | exact H);obtain rfl := Option.some.inj H;have p6 : 0 ≤ ((ji3) : Int) := pD;have q6 : (ji3) < (a0.size : Int) := pD;have hx6 := bt_at a0 (ji3);replace p6 := eq_true p6;replace q6 := eq_true q6;go_wp2
         go_ret
         exact ⟨by first | rfl | (simp;done) | (simp only [← hji3,← hji10] <;> (first | rfl | simp)) | (simp [*];done),pQ0⟩
        ·rw [if_neg c9] at H
         cases H
       ·rw [if_neg c8] at H
        cases H
     ·rw [if_neg c5] at H
      cases H
    ·rw [if_neg c4] at H
     cases H
   ·rw [if_neg c2] at H;have c2b0 : decide (1 < x3_1) = false := decide_eq_false c2;clear c2;by_cases c11 : 0 ≤ x3_1
    ·rw [if_pos c11] at H;have c11b0 := eq_true c11;have c11b1 : decide (0 ≤ x3_1) = true := decide_eq_true c11;clear c11;by_cases c12 : x3_1 ≤ (a0.size : Int)
     ·rw [if_pos c12] at H;have c12b0 := eq_true c12;have c12b1 : decide (x3_1 ≤ (a0.size : Int)) = true := decide_eq_true c12;clear c12;obtain ⟨ji13,hji13⟩ : ∃ j_ : ByteArray,(a0.extract 0 (x3_1 : Int).toNat) = j_ := ⟨_,rfl⟩;(replace H : (some ji13) = some r := by first | (rw [hji13] at H;exact H) | (simp only [hji13] at H ⊢;exact H) | exact H);obtain rfl := Option.some.inj H;go_wp2
      go_ret
      exact ⟨by first | rfl | (simp;done) | (simp only [← hji13] <;> (first | rfl | simp)) | (simp [*];done),pQ0⟩
     ·rw [if_neg c12] at H
      cases H
    ·rw [if_neg c11] at H
     cases H
end Go.Proofs.YtflcanpajgpghaaGreatDoor.Pr
end
section
namespace Go.Proofs.YtflcanpajgpghaaGreatDoor.Pr
open Go.RowKit Go.Proofs.YtflcanpajgpghaaGreatDoorW.PrintWords Go.Proofs.YtflcanpajgpghaaGreatDoorW.PrintLast Go.Proofs.YtflcanpajgpghaaGreatDoorW.PrintMore
attribute [local go_sem] zXe zXc zXn zXm zQV zQU zXd zXb
mutual
def r5_Shortest.l0 : Nat → Int → List Int → List Int → Int → Int → Option (ByteArray × Int)
 | 0,_,_,_,_,_ => none
 | k + 1,x0,x4,x5,x6,x7 => (r5_digitsOf.f k x4 x5 x6 x7).bind fun bt725 => ((r1_Sum.f k bt725.1 (([1] : List Int))).bind fun t737 => ((r5_numeral.f k bt725.1).bind fun t740 => ((r5_Near.f k t740 (wrap64 ((wrap64 (x6 - x7)) + 1))).bind fun t741 => (if (bt725.2.1.length : Int) > 0 then ((r5_numeral.f k t737).bind fun t742 => ((r5_Near.f k t742 (wrap64 ((wrap64 (x6 - x7)) + 1))).bind fun t743 => (r5_Shortest.j1 k x0 x4 x5 x6 x7 bt725.1 bt725.2.1 bt725.2.2 t737 (t741 == x0) (t743 == x0)))) else (r5_Shortest.j1 k x0 x4 x5 x6 x7 bt725.1 bt725.2.1 bt725.2.2 t737 (t741 == x0) false)))))
def r5_Shortest.j1 : Nat → Int → List Int → List Int → Int → Int → List Int → List Int → List Int → List Int → Bool → Bool → Option (ByteArray × Int)
 | 0,_,_,_,_,_,_,_,_,_,_,_ => none
 | k + 1,x0,x4,x5,x6,x7,x8,x9,x10,x11,x12,x13 => (r1_Up.f k x9 1).bind fun t744 => ((r1_Cmp.f k t744 x10).bind fun t747 => (if x12 = true then (if x13 = true then (if t747 < 0 then (r5_Shortest.j2 k x0 x4 x5 x6 x7 x8 x11 x13 true) else (if t747 = 0 then ((r1_Bit.f x8 0).bind fun t748 => (r5_Shortest.j2 k x0 x4 x5 x6 x7 x8 x11 x13 (t748 == 0))) else (r5_Shortest.j2 k x0 x4 x5 x6 x7 x8 x11 x13 false))) else (r5_Shortest.j2 k x0 x4 x5 x6 x7 x8 x11 x13 true)) else (r5_Shortest.j2 k x0 x4 x5 x6 x7 x8 x11 x13 false)))
def r5_Shortest.j2 : Nat → Int → List Int → List Int → Int → Int → List Int → List Int → Bool → Bool → Option (ByteArray × Int)
 | 0,_,_,_,_,_,_,_,_,_ => none
 | k + 1,x0,x4,x5,x6,x7,x8,x11,x13,x84 => if x84 = true then ((r5_numeral.f k x8).bind fun t749 => ((r5_trim.f k t749).bind fun t750 => (some (t750,x6)))) else (if x13 = true then ((r5_numeral.f k x11).bind fun t751 => (if (t751.size : Int) > x7 then ((r5_trim.f k t751).bind fun t752 => (some (t752,wrap64 (x6 + 1)))) else ((r5_trim.f k t751).bind fun t753 => (some (t753,x6))))) else (r5_Shortest.l0 k x0 x4 x5 x6 (wrap64 (x7 + 1))))
end
def r5_Shortest.f (k : Nat) (a0 : Int) : Option (ByteArray × Int) := (r5_Fixed.f k a0).bind fun bt718 => ((r5_Power.f k bt718.1 bt718.2).bind fun t724 => (r5_Shortest.l0 k a0 bt718.1 bt718.2 t724 1))
set_option maxHeartbeats 8000000 in
set_option maxRecDepth 100000 in
theorem r5_Shortest.calls (k : Nat) (a0 : Int) (r1 : ByteArray) (r2 : Int) (w : World) (h : r5_Shortest.f k a0 = some (r1,r2)) :
  Calls Tryz.prog 19 #[.int .u64 a0] w fun e w' => e = .returned (.tuple #[.string r1,.int .i64 r2]) ∧ Below w.heap.size w w' := by
 have hu37 := Tryz.underlying37;have HB := am (Below.refl w.heap.size w);have H : ((r5_Fixed.f k a0).bind fun bt718 => ((r5_Power.f k bt718.1 bt718.2).bind fun t724 => (r5_Shortest.l0 k a0 bt718.1 bt718.2 t724 1))) = some (r1,r2) := h;clear h;obtain ⟨⟨t718,t719⟩,A2,H⟩ := oB H;(try dsimp only at H);obtain ⟨t724,A3,H⟩ := oB H;(try dsimp only at H);have H' := am H;clear H;go_enter Tryz.func19,Tryz.ntmps19;go_wp2_with (first | ((with_reducible refine zQb (f := 48) rfl ?_);refine zQi (some 18) rfl rfl Tryz.func48 (by kernel_rfl) rfl #[.int .u64 a0] rfl pM ?_;(with_reducible refine (r5_Fixed.calls k a0 t718 t719 _ A2.out).mono ?_);rintro e w4 ⟨v720,v722,rfl,ho0,ho1,hb⟩;refine ⟨_,rfl,?_⟩;have HO721 := am (Kd.zQr ho0 (zQa pB));have HO723 := am (Kd.zQr ho1 (zQa pB));replace HB := bS hb;(try clear hb);(try clear ho0);(try clear ho1);obtain ⟨Ao5,co5,eo5⟩ := Kd.zQv HO721.out;subst eo5;obtain ⟨Ao6,co6,eo6⟩ := Kd.zQv HO723.out;subst eo6) | ((with_reducible refine zQb (f := 49) rfl ?_);refine zQi (some 23) rfl rfl Tryz.func49 (by kernel_rfl) rfl #[.slice Ao5 t718.length co5,.slice Ao6 t719.length co6] rfl pM ?_;(with_reducible refine (r5_Power.calls k _ _ t718 _ _ t719 t724 _ ?side1 ?side2 ?side3 ?side4 A3.out).mono ?_);(case side1 => exact pC (Kd.zQe HO721.out).2.2);(case side2 => exact (Kd.zQe HO721.out).2.1);(case side3 => exact pC (Kd.zQe HO723.out).2.2);(case side4 => exact (Kd.zQe HO723.out).2.1);rintro e w7 ⟨rfl,hb⟩;refine ⟨_,rfl,?_⟩;replace HO721 := am (Kd.zQw (pR HO721.out) hb);replace HO723 := am (Kd.zQw (pR HO723.out) hb);replace HB := bS hb;(try clear hb)))
 go_loopg [7] k (fun kq v7 w' => ∃ (x7_1 : Int),v7 = .int .i64 x7_1 ∧ Aside0 (r5_Shortest.l0 kq a0 t718 t719 t724 x7_1 = some (r1,r2)) ∧ Aside0 (kq ≤ k) ∧ Aside0 (Kd.R (Kd.int .u64) 22 w' w.heap.size (fun k_ => some k_ ≠ ((.slice Ao6 t719.length co6) : Value).ownBlock) (.slice Ao5 t718.length co5) t718) ∧ Aside0 (Kd.R (Kd.int .u64) 22 w' w.heap.size (fun k_ => some k_ ≠ ((.slice Ao5 t718.length co5) : Value).ownBlock) (.slice Ao6 t719.length co6) t719) ∧ Aside0 (Below w.heap.size w w'))
 case atStart => exact ⟨(1),pS,H',⟨Nat.le_refl _⟩,⟨by (with_reducible repeat (first | apply Kd.zQo | apply Kd.zQj | apply Kd.zQs));exact HO721.out⟩,⟨by (with_reducible repeat (first | apply Kd.zQo | apply Kd.zQj | apply Kd.zQs));exact HO723.out⟩,⟨pB⟩⟩
 case round =>
  clear H';(try clear c1);(try clear p2);(try clear c4);obtain ⟨x7_1,rfl,HA,HK1,HO_4,HO_5,HB⟩ := hrel
  cases gk with
  | zero => exact absurd HA.out (by simp [r5_Shortest.l0])
  | succ k1 =>
   have H := HA.out;clear HA;simp only [r5_Shortest.l0] at H;obtain ⟨⟨t725,t728,t731⟩,A8,H⟩ := oB H;(try dsimp only at H);obtain ⟨y734,hy734⟩ : ∃ y_ : List Int,y_ = (([1] : List Int)) := ⟨_,rfl⟩;(replace H : ((r1_Sum.f k1 t725 y734).bind fun t737 => ((r5_numeral.f k1 t725).bind fun t740 => ((r5_Near.f k1 t740 (wrap64 ((wrap64 (t724 - x7_1)) + 1))).bind fun t741 => (if (t728.length : Int) > 0 then ((r5_numeral.f k1 t737).bind fun t742 => ((r5_Near.f k1 t742 (wrap64 ((wrap64 (t724 - x7_1)) + 1))).bind fun t743 => (r5_Shortest.j1 k1 a0 t718 t719 t724 x7_1 t725 t728 t731 t737 (t741 == a0) (t743 == a0)))) else (r5_Shortest.j1 k1 a0 t718 t719 t724 x7_1 t725 t728 t731 t737 (t741 == a0) false))))) = some (r1,r2) := by first | (rw [hy734];with_reducible exact H) | (have H2_ := (Option.bind_some _ _).symm.trans H;rw [hy734];with_reducible exact H2_) | (have H2_ := (Option.bind_some _ _).symm.trans H;with_reducible exact H2_) | with_reducible exact H | (rw [hy734];exact H) | exact H);have Ny734 := am hy734;clear hy734;obtain ⟨t737,A9,H⟩ := oB H;(try dsimp only at H);obtain ⟨t740,A10,H⟩ := oB H;(try dsimp only at H);obtain ⟨t741,A11,H⟩ := oB H;(try dsimp only at H);have HC12 := am H;clear H;(go_upto_region 8 with (first | ((with_reducible refine zQb (f := 50) rfl ?_);refine zQi (some 31) rfl rfl Tryz.func50 (by kernel_rfl) rfl #[.slice Ao5 t718.length co5,.slice Ao6 t719.length co6,.int .i64 t724,.int .i64 x7_1] rfl pM ?_;(with_reducible refine (r5_digitsOf.calls k1 _ _ t718 (fun k_ => some k_ = (.slice Ao6 t719.length co6 : Value).ownBlock) _ _ t719 t724 x7_1 t725 t728 t731 _ ?side1 ?side2 ?side3 A8.out).mono ?_);(case side1 => exact pC (Kd.zQe HO_4.out).2.2);(case side2 => exact (Kd.zQe HO_4.out).2.1);(case side3 => exact Kd.R_V (Kd.zXt rfl (HO_5.out)));rintro e w13 ⟨v726,v729,v732,rfl,ho0,ho1,ho2,hb⟩;refine ⟨_,rfl,?_⟩;have HO727 := am (Kd.zQr (Kd.zQt (Kd.zQt (Kd.zQu (ok' := fun k_ => some k_ ≠ (v729 : Value).ownBlock) ho0 (fun _ hk_ => hk_.2)) (Kd.R_lt (pR HO_4.out))) (Kd.R_lt (pR HO_5.out))) (zQa pB));have HO730 := am (Kd.zQr (Kd.zQt (Kd.zQt (Kd.zQu (ok' := fun k_ => some k_ ≠ (v726 : Value).ownBlock) ho1 (fun _ hk_ => hk_.2)) (Kd.R_lt (pR HO_4.out))) (Kd.R_lt (pR HO_5.out))) (zQa pB));have HO733 := am (Kd.zQQ (Kd.zQh (ok' := fun k_ => some k_ ≠ (v726 : Value).ownBlock ∧ some k_ ≠ (v729 : Value).ownBlock ∧ some k_ ≠ (.slice Ao5 t718.length co5 : Value).ownBlock) ho2 (fun k_ hk_ => ⟨hk_.2.1,hk_.2.2,Or.elim hk_.1 (fun hs_ => ((HO_5.out).1 k_ hs_.symm)) (fun hn_ => (Kd.fresh' (Kd.R_lt (pR HO_4.out)) k_ hn_))⟩)) (zQa pB));replace HO_4 := am (Kd.zQu (Kd.zXu (Kd.zXu (Kd.R_old (pR HO_4.out) hb) (Kd.zQn ho0)) (Kd.zQn ho1)) (fun _ h_ => h_.1));replace HO_5 := am (Kd.zQu (Kd.zXu (Kd.zXu (Kd.R_old (pR HO_5.out) hb) (Kd.zQn ho0)) (Kd.zQn ho1)) (fun _ h_ => h_.1));replace HB := bS hb;(try clear hb);(try clear ho0);(try clear ho1);(try clear ho2)) | ((with_reducible refine zQE (N := 36) rfl ?_);refine Kd.R_lit (Kd.int .u64) _ 22 ?hg (N := 36) ?hd (xs := ([1] : List Int)) (inner := [.int .u64 1]) (ok := fun _ => True) (okp := fun _ => True) ?hr ?hp (fun _ hk => hk) trivial (Below.refl _ _) (Nat.le_refl _) (by simp) ?_;(case hd => rfl);(case hg => rfl);(case hr => first | (go_simp;done) | (go_simp;rfl));(case hp => exact (Reps.one (show Kd.M (Kd.int .u64) _ _ _ 1 [.int .u64 1] from rfl) (Reps.none _ _)));intro v735 w14 ho15 hb hg_ hnew_;clear hg_ hnew_;(first | rw [← Ny734.out] at ho15 | (simp only [Int.reduceToNat] at ho15;rw [← Ny734.out] at ho15));replace HO733 := am (Kd.zQH (pV HO733.out) (Kd.zQn ho15) hb);have HO736 := am (Kd.zQr (Kd.zQt (Kd.zQt (Kd.zQt (Kd.zQt ho15 (Kd.R_lt (pR HO_4.out))) (Kd.R_lt (pR HO_5.out))) (Kd.R_lt (pR HO727.out))) (Kd.R_lt (pR HO730.out))) (zQa pB));replace HO_4 := am (Kd.zQl (pR HO_4.out) (Kd.zQn ho15) hb);replace HO_5 := am (Kd.zQl (pR HO_5.out) (Kd.zQn ho15) hb);replace HO727 := am (Kd.zQl (pR HO727.out) (Kd.zQn ho15) hb);replace HO730 := am (Kd.zQl (pR HO730.out) (Kd.zQn ho15) hb);replace HB := bS hb;clear hb ho15;obtain ⟨Ao16,co16,eo16⟩ := Kd.zQv HO727.out;subst eo16;obtain ⟨Ao17,co17,eo17⟩ := Kd.zQv HO736.out;subst eo17) | ((with_reducible refine zQb (f := 51) rfl ?_);refine zQi (some 37) rfl rfl Tryz.func51 (by kernel_rfl) rfl #[.slice Ao16 t725.length co16,.slice Ao17 y734.length co17] rfl pM ?_;(with_reducible refine (r1_Sum.calls k1 _ _ t725 _ _ y734 t737 _ ?side1 ?side2 ?side3 ?side4 A9.out).mono ?_);(case side1 => exact pC (Kd.zQe HO727.out).2.2);(case side2 => exact (Kd.zQe HO727.out).2.1);(case side3 => exact pC (Kd.zQe HO736.out).2.2);(case side4 => exact (Kd.zQe HO736.out).2.1);rintro e w18 ⟨v738,rfl,ho0,hb⟩;refine ⟨_,rfl,?_⟩;replace HO733 := am (Kd.zQH (pV HO733.out) (Kd.zQn ho0) hb);have HO739 := am (Kd.zQr (Kd.zQt (Kd.zQt (Kd.zQt (Kd.zQt (Kd.zQt ho0 (Kd.R_lt (pR HO_4.out))) (Kd.R_lt (pR HO_5.out))) (Kd.R_lt (pR HO727.out))) (Kd.R_lt (pR HO730.out))) (Kd.R_lt (pR HO736.out))) (zQa pB));replace HO_4 := am (Kd.zQl (pR HO_4.out) (Kd.zQn ho0) hb);replace HO_5 := am (Kd.zQl (pR HO_5.out) (Kd.zQn ho0) hb);replace HO727 := am (Kd.zQl (pR HO727.out) (Kd.zQn ho0) hb);replace HO730 := am (Kd.zQl (pR HO730.out) (Kd.zQn ho0) hb);replace HO736 := am (Kd.zQl (pR HO736.out) (Kd.zQn ho0) hb);replace HB := bS hb;(try clear hb);(try clear ho0)) | ((with_reducible refine zQb (f := 52) rfl ?_);refine zQi (some 39) rfl rfl Tryz.func52 (by kernel_rfl) rfl #[.slice Ao16 t725.length co16] rfl pM ?_;(with_reducible refine (r5_numeral.calls k1 (fun k_ => some k_ = (.slice Ao16 t725.length co16 : Value).ownBlock) _ _ t725 t740 _ ?side1 A10.out).mono ?_);(case side1 => exact Kd.R_V (Kd.zXt rfl (HO727.out)));rintro e w19 ⟨rfl,hb⟩;refine ⟨_,rfl,?_⟩;replace HO_4 := am (Kd.zQw (pR HO_4.out) hb);replace HO_5 := am (Kd.zQw (pR HO_5.out) hb);replace HO727 := am (Kd.zQw (pR HO727.out) hb);replace HO730 := am (Kd.zQw (pR HO730.out) hb);replace HO733 := am (Kd.zQk (pV HO733.out) hb);replace HO736 := am (Kd.zQw (pR HO736.out) hb);replace HO739 := am (Kd.zQw (pR HO739.out) hb);replace HB := bS hb;(try clear hb)) | ((with_reducible refine zQb (f := 13) rfl ?_);refine zQi (some 45) rfl rfl Tryz.func13 (by kernel_rfl) rfl #[.agg #[.string t740,.int .i64 (wrap64 ((wrap64 (t724 - x7_1)) + 1))]] rfl pM ?_;(with_reducible refine (r5_Near.calls k1 t740 (wrap64 ((wrap64 (t724 - x7_1)) + 1)) t741 _ A11.out).mono ?_);rintro e w20 ⟨rfl,hb⟩;refine ⟨_,rfl,?_⟩;replace HO_4 := am (Kd.zQw (pR HO_4.out) hb);replace HO_5 := am (Kd.zQw (pR HO_5.out) hb);replace HO727 := am (Kd.zQw (pR HO727.out) hb);replace HO730 := am (Kd.zQw (pR HO730.out) hb);replace HO733 := am (Kd.zQk (pV HO733.out) hb);replace HO736 := am (Kd.zQw (pR HO736.out) hb);replace HO739 := am (Kd.zQw (pR HO739.out) hb);replace HB := bS hb;(try clear hb))));(try simp only [Act.put,List.setIfInBounds_toArray,List.set_cons_zero,List.set_cons_succ])
   go_cut [13] (fun v13 wc => ∃ (kq : Nat) (x13_11 : Bool),v13 = .bool x13_11 ∧ Aside0 (r5_Shortest.j1 kq a0 t718 t719 t724 x7_1 t725 t728 t731 t737 (t741 == a0) x13_11 = some (r1,r2)) ∧ Aside0 (kq ≤ k1) ∧ Aside0 (Kd.R (Kd.int .u64) 22 wc w.heap.size (fun k_ => some k_ ≠ ((.slice Ao6 t719.length co6) : Value).ownBlock ∧ some k_ ≠ ((.slice Ao16 t725.length co16) : Value).ownBlock ∧ some k_ ≠ (v729 : Value).ownBlock ∧ some k_ ≠ (v738 : Value).ownBlock) (.slice Ao5 t718.length co5) t718) ∧ Aside0 (Kd.R (Kd.int .u64) 22 wc w.heap.size (fun k_ => some k_ ≠ ((.slice Ao5 t718.length co5) : Value).ownBlock ∧ some k_ ≠ ((.slice Ao16 t725.length co16) : Value).ownBlock ∧ some k_ ≠ (v729 : Value).ownBlock ∧ some k_ ≠ (v738 : Value).ownBlock) (.slice Ao6 t719.length co6) t719) ∧ Aside0 (Kd.R (Kd.int .u64) 22 wc w.heap.size (fun k_ => some k_ ≠ ((.slice Ao5 t718.length co5) : Value).ownBlock ∧ some k_ ≠ ((.slice Ao6 t719.length co6) : Value).ownBlock ∧ some k_ ≠ (v729 : Value).ownBlock ∧ some k_ ≠ (v738 : Value).ownBlock) (.slice Ao16 t725.length co16) t725) ∧ Aside0 (Kd.R (Kd.int .u64) 22 wc w.heap.size (fun k_ => some k_ ≠ ((.slice Ao5 t718.length co5) : Value).ownBlock ∧ some k_ ≠ ((.slice Ao6 t719.length co6) : Value).ownBlock ∧ some k_ ≠ ((.slice Ao16 t725.length co16) : Value).ownBlock ∧ some k_ ≠ (v738 : Value).ownBlock) v729 t728) ∧ Aside0 (Kd.V (Kd.int .u64) 22 wc w.heap.size (fun k_ => some k_ ≠ ((.slice Ao5 t718.length co5) : Value).ownBlock ∧ some k_ ≠ ((.slice Ao16 t725.length co16) : Value).ownBlock ∧ some k_ ≠ (v729 : Value).ownBlock ∧ some k_ ≠ (v738 : Value).ownBlock) v732 t731) ∧ Aside0 (Kd.R (Kd.int .u64) 22 wc w.heap.size (fun k_ => some k_ ≠ ((.slice Ao5 t718.length co5) : Value).ownBlock ∧ some k_ ≠ ((.slice Ao6 t719.length co6) : Value).ownBlock ∧ some k_ ≠ ((.slice Ao16 t725.length co16) : Value).ownBlock ∧ some k_ ≠ (v729 : Value).ownBlock) v738 t737) ∧ Aside0 (Below w.heap.size w wc))
   case first =>
    have H := HC12.out;clear HC12;by_cases c21 : (t728.length : Int) > 0
    ·rw [if_pos c21] at H;have c21b0 : decide (0 < (t728.length : Int)) = true := decide_eq_true c21;have c21b1 : decide (0 < t728.length) = true := decide_eq_true (by omega);clear c21;(first | rw [c21b0] | (simp only [i64_w,i32_w];rw [c21b0]) | rw [c21b1] | (simp only [i64_w,i32_w];rw [c21b1]) | skip);obtain ⟨t742,A22,H⟩ := oB H;(try dsimp only at H);obtain ⟨t743,A23,H⟩ := oB H;(try dsimp only at H);have H' := am H;clear H;obtain ⟨Ao24,co24,eo24⟩ := Kd.zQv HO730.out;subst eo24;obtain ⟨Ao25,co25,eo25⟩ := Kd.zQv HO739.out;subst eo25;(go_wp2_with (first | (go_at_call 52;(with_reducible refine (r5_numeral.calls k1 (fun k_ => some k_ = (.slice Ao25 t737.length co25 : Value).ownBlock) _ _ t737 t742 _ ?side1 A22.out).mono ?_);(case side1 => exact Kd.R_V (Kd.zXt rfl (HO739.out)));rintro e w26 ⟨rfl,hb⟩;replace HO_4 := am (Kd.zQw (pR HO_4.out) hb);replace HO_5 := am (Kd.zQw (pR HO_5.out) hb);replace HO727 := am (Kd.zQw (pR HO727.out) hb);replace HO730 := am (Kd.zQw (pR HO730.out) hb);replace HO733 := am (Kd.zQk (pV HO733.out) hb);replace HO736 := am (Kd.zQw (pR HO736.out) hb);replace HO739 := am (Kd.zQw (pR HO739.out) hb);replace HB := bS hb;(try clear hb)) | (go_at_call 13;(with_reducible refine (r5_Near.calls k1 t742 (wrap64 ((wrap64 (t724 - x7_1)) + 1)) t743 _ A23.out).mono ?_);rintro e w27 ⟨rfl,hb⟩;replace HO_4 := am (Kd.zQw (pR HO_4.out) hb);replace HO_5 := am (Kd.zQw (pR HO_5.out) hb);replace HO727 := am (Kd.zQw (pR HO727.out) hb);replace HO730 := am (Kd.zQw (pR HO730.out) hb);replace HO733 := am (Kd.zQk (pV HO733.out) hb);replace HO736 := am (Kd.zQw (pR HO736.out) hb);replace HO739 := am (Kd.zQw (pR HO739.out) hb);replace HB := bS hb;(try clear hb))));go_meet
     case rel => exact ⟨_,((t743 == a0)),pS,H',⟨by have := HK1.out;first | omega | exact Nat.le_refl _⟩,⟨by (with_reducible repeat (first | apply Kd.zQo | apply Kd.zQj | apply Kd.zQs));exact Kd.zQu HO_4.out (fun _ hk => ⟨hk.1.1.1.1,⟨hk.1.1.1.2,⟨hk.1.1.2,hk.2⟩⟩⟩)⟩,⟨by (with_reducible repeat (first | apply Kd.zQo | apply Kd.zQj | apply Kd.zQs));exact Kd.zQu HO_5.out (fun _ hk => ⟨hk.1.1.1.1,⟨hk.1.1.1.2,⟨hk.1.1.2,hk.2⟩⟩⟩)⟩,⟨by (with_reducible repeat (first | apply Kd.zQo | apply Kd.zQj | apply Kd.zQs));exact Kd.zQu HO727.out (fun _ hk => ⟨hk.1.1.1.2,⟨hk.1.1.2,⟨hk.1.1.1.1,hk.2⟩⟩⟩)⟩,⟨by (with_reducible repeat (first | apply Kd.zQo | apply Kd.zQj | apply Kd.zQs));exact Kd.zQu HO730.out (fun _ hk => ⟨hk.1.1.1.2,⟨hk.1.1.2,⟨hk.1.1.1.1,hk.2⟩⟩⟩)⟩,⟨by (with_reducible repeat (first | apply Kd.zQp | apply Kd.zQm | apply Kd.zQq));exact Kd.zQh HO733.out (fun _ hk => ⟨hk.1.1.2.2,⟨hk.1.1.1,⟨hk.1.1.2.1,hk.2⟩⟩⟩)⟩,⟨by (with_reducible repeat (first | apply Kd.zQo | apply Kd.zQj | apply Kd.zQs));exact Kd.zQu HO739.out (fun _ hk => ⟨hk.1.1.1.1.2,⟨hk.1.1.1.2,⟨hk.1.1.2,hk.1.2⟩⟩⟩)⟩,⟨pB⟩⟩
    ·rw [if_neg c21] at H;have c21b0 : decide (0 < (t728.length : Int)) = false := decide_eq_false c21;have c21b1 : decide (0 < t728.length) = false := decide_eq_false (by omega);clear c21;(first | rw [c21b0] | (simp only [i64_w,i32_w];rw [c21b0]) | rw [c21b1] | (simp only [i64_w,i32_w];rw [c21b1]) | skip);have H' := am H;clear H;obtain ⟨Ao28,co28,eo28⟩ := Kd.zQv HO730.out;subst eo28;go_wp2;go_meet
     case rel => exact ⟨_,(false),pS,H',⟨by have := HK1.out;first | omega | exact Nat.le_refl _⟩,⟨by (with_reducible repeat (first | apply Kd.zQo | apply Kd.zQj | apply Kd.zQs));exact Kd.zQu HO_4.out (fun _ hk => ⟨hk.1.1.1.1,⟨hk.1.1.1.2,⟨hk.1.1.2,hk.2⟩⟩⟩)⟩,⟨by (with_reducible repeat (first | apply Kd.zQo | apply Kd.zQj | apply Kd.zQs));exact Kd.zQu HO_5.out (fun _ hk => ⟨hk.1.1.1.1,⟨hk.1.1.1.2,⟨hk.1.1.2,hk.2⟩⟩⟩)⟩,⟨by (with_reducible repeat (first | apply Kd.zQo | apply Kd.zQj | apply Kd.zQs));exact Kd.zQu HO727.out (fun _ hk => ⟨hk.1.1.1.2,⟨hk.1.1.2,⟨hk.1.1.1.1,hk.2⟩⟩⟩)⟩,⟨by (with_reducible repeat (first | apply Kd.zQo | apply Kd.zQj | apply Kd.zQs));exact Kd.zQu HO730.out (fun _ hk => ⟨hk.1.1.1.2,⟨hk.1.1.2,⟨hk.1.1.1.1,hk.2⟩⟩⟩)⟩,⟨by (with_reducible repeat (first | apply Kd.zQp | apply Kd.zQm | apply Kd.zQq));exact Kd.zQh HO733.out (fun _ hk => ⟨hk.1.1.2.2,⟨hk.1.1.1,⟨hk.1.1.2.1,hk.2⟩⟩⟩)⟩,⟨by (with_reducible repeat (first | apply Kd.zQo | apply Kd.zQj | apply Kd.zQs));exact Kd.zQu HO739.out (fun _ hk => ⟨hk.1.1.1.1.2,⟨hk.1.1.1.2,⟨hk.1.1.2,hk.1.2⟩⟩⟩)⟩,⟨pB⟩⟩
   case rest =>
    clear HC12;(try clear c1);(try clear c2);(try clear p2);(try clear c4);(try clear c5);(try clear p6);(try clear c13);(try clear c19);(try clear c21);(try clear c21b0);(try clear c21b1);(try clear p2);obtain ⟨kq,x13_11,rfl,HA,HJ11,HO_4,HO_5,HO_8,HO_9,HO_10,HO_11,HB⟩ := hcut
    cases kq with
    | zero => exact absurd HA.out (by simp [r5_Shortest.j1])
    | succ kj11 =>
     have H := HA.out;clear HA;simp only [r5_Shortest.j1] at H;obtain ⟨q12_,hq12_⟩ : ∃ j_ : Bool,(t741 == a0) = j_ := ⟨_,rfl⟩;rw [hq12_] at H ⊢;obtain ⟨t744,A29,H⟩ := oB H;(try dsimp only at H);obtain ⟨t747,A30,H⟩ := oB H;(try dsimp only at H);have HC31 := am H;clear H;obtain ⟨Ao32,co32,eo32⟩ := Kd.zQv HO_9.out;subst eo32;(go_upto_region 10 with (first | ((with_reducible refine zQb (f := 38) rfl ?_);refine zQi (some 64) rfl rfl Tryz.func38 (by kernel_rfl) rfl #[.slice Ao32 t728.length co32,.int .i64 1] rfl pM ?_;(with_reducible refine (r1_Up.calls kj11 _ _ t728 1 t744 _ ?side1 ?side2 A29.out).mono ?_);(case side1 => exact pC (Kd.zQe HO_9.out).2.2);(case side2 => exact (Kd.zQe HO_9.out).2.1);rintro e w33 ⟨v745,rfl,ho0,hb⟩;refine ⟨_,rfl,?_⟩;replace HO_10 := am (Kd.zQH (pV HO_10.out) (Kd.zQn ho0) hb);have HO746 := am (Kd.zQr (Kd.zQt (Kd.zQt (Kd.zQt (Kd.zQt (Kd.zQt ho0 (Kd.R_lt (pR HO_4.out))) (Kd.R_lt (pR HO_5.out))) (Kd.R_lt (pR HO_8.out))) (Kd.R_lt (pR HO_9.out))) (Kd.R_lt (pR HO_11.out))) (zQa pB));replace HO_4 := am (Kd.zQl (pR HO_4.out) (Kd.zQn ho0) hb);replace HO_5 := am (Kd.zQl (pR HO_5.out) (Kd.zQn ho0) hb);replace HO_8 := am (Kd.zQl (pR HO_8.out) (Kd.zQn ho0) hb);replace HO_9 := am (Kd.zQl (pR HO_9.out) (Kd.zQn ho0) hb);replace HO_11 := am (Kd.zQl (pR HO_11.out) (Kd.zQn ho0) hb);replace HB := bS hb;(try clear hb);(try clear ho0);obtain ⟨Ao34,co34,eo34⟩ := Kd.zQv HO746.out;subst eo34;obtain ⟨Ao35,co35,eo35⟩ := Kd.zQA HO_10.out;subst eo35) | ((with_reducible refine zQb (f := 53) rfl ?_);refine zQi (some 66) rfl rfl Tryz.func53 (by kernel_rfl) rfl #[.slice Ao34 t744.length co34,.slice Ao35 t731.length co35] rfl pM ?_;(with_reducible refine (r1_Cmp.calls kj11 _ _ t744 _ _ t731 t747 _ ?side1 ?side2 ?side3 ?side4 A30.out).mono ?_);(case side1 => exact pC (Kd.zQe HO746.out).2.2);(case side2 => exact (Kd.zQe HO746.out).2.1);(case side3 => exact pC (Kd.zQg HO_10.out).2.2);(case side4 => exact (Kd.zQg HO_10.out).2.1);rintro e w' ⟨rfl,⟨nd,rfl⟩⟩;refine ⟨_,rfl,?_⟩)));(try simp only [Act.put,List.setIfInBounds_toArray,List.set_cons_zero,List.set_cons_succ])
     go_cut [84] (fun v84 wc => ∃ (kq : Nat) (x84_30 : Bool),v84 = .bool x84_30 ∧ Aside0 (r5_Shortest.j2 kq a0 t718 t719 t724 x7_1 t725 t737 x13_11 x84_30 = some (r1,r2)) ∧ Aside0 (kq ≤ kj11) ∧ Aside0 (Kd.R (Kd.int .u64) 22 wc w.heap.size (fun k_ => some k_ ≠ ((.slice Ao6 t719.length co6) : Value).ownBlock ∧ some k_ ≠ ((.slice Ao16 t725.length co16) : Value).ownBlock ∧ some k_ ≠ (v738 : Value).ownBlock) (.slice Ao5 t718.length co5) t718) ∧ Aside0 (Kd.R (Kd.int .u64) 22 wc w.heap.size (fun k_ => some k_ ≠ ((.slice Ao5 t718.length co5) : Value).ownBlock ∧ some k_ ≠ ((.slice Ao16 t725.length co16) : Value).ownBlock ∧ some k_ ≠ (v738 : Value).ownBlock) (.slice Ao6 t719.length co6) t719) ∧ Aside0 (Kd.R (Kd.int .u64) 22 wc w.heap.size (fun k_ => some k_ ≠ ((.slice Ao5 t718.length co5) : Value).ownBlock ∧ some k_ ≠ ((.slice Ao6 t719.length co6) : Value).ownBlock ∧ some k_ ≠ (v738 : Value).ownBlock) (.slice Ao16 t725.length co16) t725) ∧ Aside0 (Kd.R (Kd.int .u64) 22 wc w.heap.size (fun k_ => some k_ ≠ ((.slice Ao5 t718.length co5) : Value).ownBlock ∧ some k_ ≠ ((.slice Ao6 t719.length co6) : Value).ownBlock ∧ some k_ ≠ ((.slice Ao16 t725.length co16) : Value).ownBlock) v738 t737) ∧ Aside0 (Below w.heap.size w wc))
     case first =>
      have H := HC31.out;clear HC31;by_cases c36 : q12_ = true
      ·subst c36;rw [if_pos rfl] at H;by_cases c37 : x13_11 = true
       ·subst c37;rw [if_pos rfl] at H;by_cases c38 : t747 < 0
        ·rw [if_pos c38] at H;have c38b0 : decide (t747 < 0) = true := decide_eq_true c38;clear c38;have H' := am H;clear H;go_wp2;go_meet
         case rel => exact ⟨_,(true),pS,H',⟨by have := HK1.out;have := HJ11.out;first | omega | exact Nat.le_refl _⟩,⟨by (with_reducible repeat (first | apply Kd.zQo | apply Kd.zQj | apply Kd.zQs));exact Kd.zQu HO_4.out (fun _ hk => ⟨hk.1.1,⟨hk.1.2.1,hk.1.2.2.2⟩⟩)⟩,⟨by (with_reducible repeat (first | apply Kd.zQo | apply Kd.zQj | apply Kd.zQs));exact Kd.zQu HO_5.out (fun _ hk => ⟨hk.1.1,⟨hk.1.2.1,hk.1.2.2.2⟩⟩)⟩,⟨by (with_reducible repeat (first | apply Kd.zQo | apply Kd.zQj | apply Kd.zQs));exact Kd.zQu HO_8.out (fun _ hk => ⟨hk.1.1,⟨hk.1.2.1,hk.1.2.2.2⟩⟩)⟩,⟨by (with_reducible repeat (first | apply Kd.zQo | apply Kd.zQj | apply Kd.zQs));exact Kd.zQu HO_11.out (fun _ hk => ⟨hk.1.1,⟨hk.1.2.1,hk.1.2.2.1⟩⟩)⟩,⟨pB⟩⟩
        ·rw [if_neg c38] at H;have c38b0 : decide (t747 < 0) = false := decide_eq_false c38;clear c38;by_cases c39 : t747 = 0
         ·rw [if_pos c39] at H;have c39b0 : (t747 == 0) = true := beq_iff_eq.mpr c39;have c39b1 : (t747 != 0) = false := bne_eq_false_iff_eq.mpr c39;clear c39;obtain ⟨t748,A40,H⟩ := oB H;(try dsimp only at H);have H' := am H;clear H;(go_wp2_with (first | (go_at_call 54;(with_reducible refine (r1_Bit.calls _ _ t725 0 t748 _ ?side1 ?side2 A40.out).mono ?_);(case side1 => exact pC (Kd.zQe HO_8.out).2.2);(case side2 => exact (Kd.zQe HO_8.out).2.1);rintro e w' ⟨rfl,⟨nd,rfl⟩⟩)));go_meet
          case rel => exact ⟨_,((t748 == 0)),pS,H',⟨by have := HK1.out;have := HJ11.out;first | omega | exact Nat.le_refl _⟩,⟨by (with_reducible repeat (first | apply Kd.zQo | apply Kd.zQj | apply Kd.zQs));exact Kd.zQu HO_4.out (fun _ hk => ⟨hk.1.1,⟨hk.1.2.1,hk.1.2.2.2⟩⟩)⟩,⟨by (with_reducible repeat (first | apply Kd.zQo | apply Kd.zQj | apply Kd.zQs));exact Kd.zQu HO_5.out (fun _ hk => ⟨hk.1.1,⟨hk.1.2.1,hk.1.2.2.2⟩⟩)⟩,⟨by (with_reducible repeat (first | apply Kd.zQo | apply Kd.zQj | apply Kd.zQs));exact Kd.zQu HO_8.out (fun _ hk => ⟨hk.1.1,⟨hk.1.2.1,hk.1.2.2.2⟩⟩)⟩,⟨by (with_reducible repeat (first | apply Kd.zQo | apply Kd.zQj | apply Kd.zQs));exact Kd.zQu HO_11.out (fun _ hk => ⟨hk.1.1,⟨hk.1.2.1,hk.1.2.2.1⟩⟩)⟩,⟨pB⟩⟩
         ·rw [if_neg c39] at H;have c39b0 : (t747 == 0) = false := beq_eq_false_iff_ne.mpr c39;have c39b1 : (t747 != 0) = true := bne_iff_ne.mpr c39;have H' := am H;clear H;go_wp2;go_meet
          case rel => exact ⟨_,(false),pS,H',⟨by have := HK1.out;have := HJ11.out;first | omega | exact Nat.le_refl _⟩,⟨by (with_reducible repeat (first | apply Kd.zQo | apply Kd.zQj | apply Kd.zQs));exact Kd.zQu HO_4.out (fun _ hk => ⟨hk.1.1,⟨hk.1.2.1,hk.1.2.2.2⟩⟩)⟩,⟨by (with_reducible repeat (first | apply Kd.zQo | apply Kd.zQj | apply Kd.zQs));exact Kd.zQu HO_5.out (fun _ hk => ⟨hk.1.1,⟨hk.1.2.1,hk.1.2.2.2⟩⟩)⟩,⟨by (with_reducible repeat (first | apply Kd.zQo | apply Kd.zQj | apply Kd.zQs));exact Kd.zQu HO_8.out (fun _ hk => ⟨hk.1.1,⟨hk.1.2.1,hk.1.2.2.2⟩⟩)⟩,⟨by (with_reducible repeat (first | apply Kd.zQo | apply Kd.zQj | apply Kd.zQs));exact Kd.zQu HO_11.out (fun _ hk => ⟨hk.1.1,⟨hk.1.2.1,hk.1.2.2.1⟩⟩)⟩,⟨pB⟩⟩
       ·replace c37 := Bool.eq_false_iff.mpr c37;subst c37;rw [if_neg (show ¬ (false = true) by decide)] at H;have H' := am H;clear H;go_wp2;go_meet
        case rel => exact ⟨_,(true),pS,H',⟨by have := HK1.out;have := HJ11.out;first | omega | exact Nat.le_refl _⟩,⟨by (with_reducible repeat (first | apply Kd.zQo | apply Kd.zQj | apply Kd.zQs));exact Kd.zQu HO_4.out (fun _ hk => ⟨hk.1.1,⟨hk.1.2.1,hk.1.2.2.2⟩⟩)⟩,⟨by (with_reducible repeat (first | apply Kd.zQo | apply Kd.zQj | apply Kd.zQs));exact Kd.zQu HO_5.out (fun _ hk => ⟨hk.1.1,⟨hk.1.2.1,hk.1.2.2.2⟩⟩)⟩,⟨by (with_reducible repeat (first | apply Kd.zQo | apply Kd.zQj | apply Kd.zQs));exact Kd.zQu HO_8.out (fun _ hk => ⟨hk.1.1,⟨hk.1.2.1,hk.1.2.2.2⟩⟩)⟩,⟨by (with_reducible repeat (first | apply Kd.zQo | apply Kd.zQj | apply Kd.zQs));exact Kd.zQu HO_11.out (fun _ hk => ⟨hk.1.1,⟨hk.1.2.1,hk.1.2.2.1⟩⟩)⟩,⟨pB⟩⟩
      ·replace c36 := Bool.eq_false_iff.mpr c36;subst c36;rw [if_neg (show ¬ (false = true) by decide)] at H;have H' := am H;clear H;go_wp2;go_meet
       case rel => exact ⟨_,(false),pS,H',⟨by have := HK1.out;have := HJ11.out;first | omega | exact Nat.le_refl _⟩,⟨by (with_reducible repeat (first | apply Kd.zQo | apply Kd.zQj | apply Kd.zQs));exact Kd.zQu HO_4.out (fun _ hk => ⟨hk.1.1,⟨hk.1.2.1,hk.1.2.2.2⟩⟩)⟩,⟨by (with_reducible repeat (first | apply Kd.zQo | apply Kd.zQj | apply Kd.zQs));exact Kd.zQu HO_5.out (fun _ hk => ⟨hk.1.1,⟨hk.1.2.1,hk.1.2.2.2⟩⟩)⟩,⟨by (with_reducible repeat (first | apply Kd.zQo | apply Kd.zQj | apply Kd.zQs));exact Kd.zQu HO_8.out (fun _ hk => ⟨hk.1.1,⟨hk.1.2.1,hk.1.2.2.2⟩⟩)⟩,⟨by (with_reducible repeat (first | apply Kd.zQo | apply Kd.zQj | apply Kd.zQs));exact Kd.zQu HO_11.out (fun _ hk => ⟨hk.1.1,⟨hk.1.2.1,hk.1.2.2.1⟩⟩)⟩,⟨pB⟩⟩
     case rest =>
      clear HC31;(try clear c1);(try clear c2);(try clear p2);(try clear c3);(try clear c4);(try clear c5);(try clear p6);(try clear c13);(try clear c19);(try clear c21);(try clear c21b0);(try clear c21b1);(try clear c36);(try clear c36b0);(try clear c36b1);(try clear c36b2);(try clear c37);(try clear c38);(try clear c38b0);(try clear c39);(try clear c39b0);(try clear c39b1);(try clear p2);(try clear p6);obtain ⟨kq,x84_30,rfl,HA,HJ30,HO_4,HO_5,HO_8,HO_11,HB⟩ := hcut
      cases kq with
      | zero => exact absurd HA.out (by simp [r5_Shortest.j2])
      | succ kj30 =>
       have H := HA.out;clear HA;simp only [r5_Shortest.j2] at H;by_cases c41 : x84_30 = true
       ·subst c41;rw [if_pos rfl] at H;obtain ⟨t749,A42,H⟩ := oB H;(try dsimp only at H);obtain ⟨t750,A43,H⟩ := oB H;(try dsimp only at H);simp only [Option.some.injEq,Prod.mk.injEq] at H;obtain ⟨rfl,rfl⟩ := H;(go_wp2_with (first | ((with_reducible refine zQb (f := 52) rfl ?_);refine zQi (some 86) rfl rfl Tryz.func52 (by kernel_rfl) rfl #[.slice Ao16 t725.length co16] rfl pM ?_;(with_reducible refine (r5_numeral.calls kj30 (fun k_ => some k_ = (.slice Ao16 t725.length co16 : Value).ownBlock) _ _ t725 t749 _ ?side1 A42.out).mono ?_);(case side1 => exact Kd.R_V (Kd.zXt rfl (HO_8.out)));rintro e w44 ⟨rfl,hb⟩;refine ⟨_,rfl,?_⟩;replace HO_4 := am (Kd.zQw (pR HO_4.out) hb);replace HO_5 := am (Kd.zQw (pR HO_5.out) hb);replace HO_8 := am (Kd.zQw (pR HO_8.out) hb);replace HO_11 := am (Kd.zQw (pR HO_11.out) hb);replace HB := bS hb;(try clear hb)) | ((with_reducible refine zQb (f := 55) rfl ?_);refine zQi (some 87) rfl rfl Tryz.func55 (by kernel_rfl) rfl #[.string t749] rfl pM ?_;(with_reducible refine (r5_trim.calls kj30 t749 t750 _ A43.out).mono ?_);rintro e w' ⟨rfl,⟨nd,rfl⟩⟩;refine ⟨_,rfl,?_⟩)));go_ret2;exact ⟨pE,pB⟩
       ·replace c41 := Bool.eq_false_iff.mpr c41;subst c41;rw [if_neg (show ¬ (false = true) by decide)] at H;by_cases c45 : x13_11 = true
        ·subst c45;rw [if_pos rfl] at H;obtain ⟨t751,A46,H⟩ := oB H;(try dsimp only at H);by_cases c47 : (t751.size : Int) > x7_1
         ·rw [if_pos c47] at H;have c47b0 : decide (x7_1 < (t751.size : Int)) = true := decide_eq_true c47;clear c47;obtain ⟨t752,A48,H⟩ := oB H;(try dsimp only at H);simp only [Option.some.injEq,Prod.mk.injEq] at H;obtain ⟨rfl,rfl⟩ := H;obtain ⟨Ao49,co49,eo49⟩ := Kd.zQv HO_11.out;subst eo49;(go_wp2_with (first | ((with_reducible refine zQb (f := 52) rfl ?_);refine zQi (some 91) rfl rfl Tryz.func52 (by kernel_rfl) rfl #[.slice Ao49 t737.length co49] rfl pM ?_;(with_reducible refine (r5_numeral.calls kj30 (fun k_ => some k_ = (.slice Ao49 t737.length co49 : Value).ownBlock) _ _ t737 t751 _ ?side1 A46.out).mono ?_);(case side1 => exact Kd.R_V (Kd.zXt rfl (HO_11.out)));rintro e w50 ⟨rfl,hb⟩;refine ⟨_,rfl,?_⟩;replace HO_4 := am (Kd.zQw (pR HO_4.out) hb);replace HO_5 := am (Kd.zQw (pR HO_5.out) hb);replace HO_8 := am (Kd.zQw (pR HO_8.out) hb);replace HO_11 := am (Kd.zQw (pR HO_11.out) hb);replace HB := bS hb;(try clear hb)) | ((with_reducible refine zQb (f := 55) rfl ?_);refine zQi (some 97) rfl rfl Tryz.func55 (by kernel_rfl) rfl #[.string t751] rfl pM ?_;(with_reducible refine (r5_trim.calls kj30 t751 t752 _ A48.out).mono ?_);rintro e w' ⟨rfl,⟨nd,rfl⟩⟩;refine ⟨_,rfl,?_⟩)));go_ret2;exact ⟨pE,pB⟩
         ·rw [if_neg c47] at H;have c47b0 : decide (x7_1 < (t751.size : Int)) = false := decide_eq_false c47;clear c47;obtain ⟨t753,A51,H⟩ := oB H;(try dsimp only at H);simp only [Option.some.injEq,Prod.mk.injEq] at H;obtain ⟨rfl,rfl⟩ := H;obtain ⟨Ao52,co52,eo52⟩ := Kd.zQv HO_11.out;subst eo52;(go_wp2_with (first | ((with_reducible refine zQb (f := 52) rfl ?_);refine zQi (some 91) rfl rfl Tryz.func52 (by kernel_rfl) rfl #[.slice Ao52 t737.length co52] rfl pM ?_;(with_reducible refine (r5_numeral.calls kj30 (fun k_ => some k_ = (.slice Ao52 t737.length co52 : Value).ownBlock) _ _ t737 t751 _ ?side1 A46.out).mono ?_);(case side1 => exact Kd.R_V (Kd.zXt rfl (HO_11.out)));rintro e w53 ⟨rfl,hb⟩;refine ⟨_,rfl,?_⟩;replace HO_4 := am (Kd.zQw (pR HO_4.out) hb);replace HO_5 := am (Kd.zQw (pR HO_5.out) hb);replace HO_8 := am (Kd.zQw (pR HO_8.out) hb);replace HO_11 := am (Kd.zQw (pR HO_11.out) hb);replace HB := bS hb;(try clear hb)) | ((with_reducible refine zQb (f := 55) rfl ?_);refine zQi (some 101) rfl rfl Tryz.func55 (by kernel_rfl) rfl #[.string t751] rfl pM ?_;(with_reducible refine (r5_trim.calls kj30 t751 t753 _ A51.out).mono ?_);rintro e w' ⟨rfl,⟨nd,rfl⟩⟩;refine ⟨_,rfl,?_⟩)));go_ret2;exact ⟨pE,pB⟩
        ·replace c45 := Bool.eq_false_iff.mpr c45;subst c45;rw [if_neg (show ¬ (false = true) by decide)] at H;have H' := am H;clear H;go_wp2
         go_roundg kj30
         case measure => have := HK1.out;have := HJ11.out;have := HJ30.out;omega
         case rel => exact ⟨(wrap64 (x7_1 + 1)),pS,H',⟨by have := HK1.out;have := HJ11.out;have := HJ30.out;omega⟩,⟨by (with_reducible repeat (first | apply Kd.zQo | apply Kd.zQj | apply Kd.zQs));exact Kd.zQu HO_4.out (fun _ hk => hk.1)⟩,⟨by (with_reducible repeat (first | apply Kd.zQo | apply Kd.zQj | apply Kd.zQs));exact Kd.zQu HO_5.out (fun _ hk => hk.1)⟩,⟨pB⟩⟩
def r5_noughts.l0 : Nat → Int → ByteArray → Int → Option (ByteArray)
 | 0,_,_,_ => none
 | k + 1,x0,x3,x4 => if x4 < x0 then (if x3.size + 1 ≤ 9223372036854775807 then (r5_noughts.l0 k x0 (x3 ++ (⟨#[48]⟩ : ByteArray)) (wrap64 (x4 + 1))) else (none)) else (some x3)
def r5_noughts.f (k : Nat) (a0 : Int) : Option (ByteArray) := r5_noughts.l0 k a0 (⟨#[]⟩ : ByteArray) 0
set_option maxHeartbeats 8000000 in
set_option maxRecDepth 100000 in
theorem r5_noughts.calls (k : Nat) (a0 : Int) (r : ByteArray) (w : World) (h : r5_noughts.f k a0 = some r) :
  Calls Tryz.prog 20 #[.int .i64 a0] w fun e w' => e = .returned (.string r) ∧ Drawn0 w w' := by
 have H : (r5_noughts.l0 k a0 (⟨#[]⟩ : ByteArray) 0) = some r := h;clear h;have H' := am H;clear H;go_enter Tryz.func20,Tryz.ntmps20;go_wp2
 go_loopg [3,4] k (fun kq v3 v4 w' => ∃ (x3_1 : ByteArray) (x4_1 : Int),v3 = .string x3_1 ∧ v4 = .int .i64 x4_1 ∧ Aside0 (r5_noughts.l0 kq a0 x3_1 x4_1 = some r) ∧ Aside0 (kq ≤ k) ∧ Drawn0 w w')
 case atStart => exact ⟨((⟨#[]⟩ : ByteArray)),(0),pS,pS,H',⟨Nat.le_refl _⟩,pQ0⟩
 case round =>
  clear H';obtain ⟨x3_1,x4_1,rfl,rfl,HA,HK1,⟨m1,rfl⟩⟩ := hrel
  cases gk with
  | zero => exact absurd HA.out (by simp [r5_noughts.l0])
  | succ k1 =>
   have H := HA.out;clear HA;simp only [r5_noughts.l0] at H;by_cases c2 : x4_1 < a0
   ·rw [if_pos c2] at H;have c2b0 : decide (x4_1 < a0) = true := decide_eq_true c2;clear c2;by_cases c3 : x3_1.size + 1 ≤ 9223372036854775807
    ·rw [if_pos c3] at H;have c3b0 := eq_true c3;have c3b1 : decide (x3_1.size + 1 ≤ 9223372036854775807) = true := decide_eq_true c3;(try have c3b2 : (9223372036854775807 < x3_1.size + 1) = False := eq_false (Nat.not_lt.2 c3));have H' := am H;clear H;go_wp2
     go_roundg k1
     case measure => have := HK1.out;omega
     case rel => exact ⟨(x3_1 ++ (⟨#[48]⟩ : ByteArray)),(wrap64 (x4_1 + 1)),pS,pS,H',⟨by have := HK1.out;omega⟩,pQ0⟩
    ·rw [if_neg c3] at H
     cases H
   ·rw [if_neg c2] at H;have c2b0 : decide (x4_1 < a0) = false := decide_eq_false c2;clear c2;obtain rfl := Option.some.inj H;go_wp2
    go_ret
    exact ⟨pS,pQ0⟩
def r5_number.f : Nat → Int → Option (ByteArray)
 | 0,_ => none
 | k + 1,a0 => (some (([(48 + ((Int.tmod a0 10) % 256)) % 256] : List Int) : List Int)).bind fun y754 => (if a0 ≥ 10 then ((r5_number.f k (wrap64 (Int.tdiv a0 10))).bind fun t757 => (if t757.size + (strOfNums y754).size ≤ 9223372036854775807 then (some (t757 ++ (strOfNums y754))) else (none))) else (some (strOfNums y754)))
set_option maxHeartbeats 8000000 in
set_option maxRecDepth 100000 in
theorem r5_number.calls (k : Nat) : ∀ (a0 : Int) (r : ByteArray) (w : World) (h : r5_number.f k a0 = some r),
  Calls Tryz.prog 21 #[.int .i64 a0] w fun e w' => e = .returned (.string r) ∧ Below w.heap.size w w' := by
 induction k using Nat.strongRecOn with
 | _ k ih =>
 intro a0 r w h
 cases k with
 | zero => exact absurd h (by simp [r5_number.f])
 | succ k =>
 simp only [r5_number.f] at h;have HB := am (Below.refl w.heap.size w);have H : ((some (([(48 + ((Int.tmod a0 10) % 256)) % 256] : List Int) : List Int)).bind fun y754 => (if a0 ≥ 10 then ((r5_number.f k (wrap64 (Int.tdiv a0 10))).bind fun t757 => (if t757.size + (strOfNums y754).size ≤ 9223372036854775807 then (some (t757 ++ (strOfNums y754))) else (none))) else (some (strOfNums y754)))) = some r := h;clear h;obtain ⟨y754,hy754⟩ : ∃ y_ : List Int,y_ = (([(48 + ((Int.tmod a0 10) % 256)) % 256] : List Int)) := ⟨_,rfl⟩;(replace H : (if a0 ≥ 10 then ((r5_number.f k (wrap64 (Int.tdiv a0 10))).bind fun t757 => (if t757.size + (strOfNums y754).size ≤ 9223372036854775807 then (some (t757 ++ (strOfNums y754))) else (none))) else (some (strOfNums y754))) = some r := by first | (rw [hy754];with_reducible exact H) | (have H2_ := (Option.bind_some _ _).symm.trans H;rw [hy754];with_reducible exact H2_) | (have H2_ := (Option.bind_some _ _).symm.trans H;with_reducible exact H2_) | with_reducible exact H | (rw [hy754];exact H) | exact H);have Ny754 := am hy754;clear hy754;by_cases c2 : a0 ≥ 10
 ·rw [if_pos c2] at H;have c2b0 : decide (10 ≤ a0) = true := decide_eq_true c2;clear c2;obtain ⟨t757,A3,H⟩ := oB H;(try dsimp only at H);by_cases c4 : t757.size + (strOfNums y754).size ≤ 9223372036854775807
  ·rw [if_pos c4] at H;have c4b0 := eq_true c4;have c4b1 : decide (t757.size + (strOfNums y754).size ≤ 9223372036854775807) = true := decide_eq_true c4;(try have c4b2 : (9223372036854775807 < t757.size + (strOfNums y754).size) = False := eq_false (Nat.not_lt.2 c4));obtain rfl := Option.some.inj H;go_enter Tryz.func21,Tryz.ntmps21;go_wp2_with (first | ((with_reducible refine zQE (N := 8) rfl ?_);refine Kd.R_lit (Kd.int .u8) _ 5 ?hg (N := 8) ?hd (xs := ([(48 + ((Int.tmod a0 10) % 256)) % 256] : List Int)) (inner := [.int .u8 ((48 + ((Int.tmod a0 10) % 256)) % 256)]) (ok := fun _ => True) (okp := fun _ => True) ?hr ?hp (fun _ hk => hk) trivial (Below.refl _ _) (Nat.le_refl _) (by simp) ?_;(case hd => rfl);(case hg => rfl);(case hr => first | (go_simp;done) | (go_simp;rfl));(case hp => exact (Reps.one (show Kd.M (Kd.int .u8) _ _ _ ((48 + ((Int.tmod a0 10) % 256)) % 256) [.int .u8 ((48 + ((Int.tmod a0 10) % 256)) % 256)] from rfl) (Reps.none _ _)));intro v755 w5 ho6 hb hg_ hnew_;clear hg_ hnew_;(first | rw [← Ny754.out] at ho6 | (simp only [Int.reduceToNat] at ho6;rw [← Ny754.out] at ho6));have HO756 := am (Kd.zQr ho6 (zQa pB));replace HB := bS hb;clear hb ho6;have hcv7 := zXS (P := Tryz.prog) Tryz.underlying75 Tryz.underlying5 Tryz.underlying9 (Kd.zYe HO756.out);try have hcq8 := fun n_ : Nat => zXS (P := Tryz.prog) Tryz.underlying75 Tryz.underlying5 Tryz.underlying9 (Kd.zYe (Kd.zQj HO756.out n_))) | ((with_reducible refine zQb (f := 21) rfl ?_);refine zQi (some 14) rfl rfl Tryz.func21 (by kernel_rfl) rfl #[.int .i64 (wrap64 (Int.tdiv a0 10))] rfl pM ?_;(with_reducible refine (ih k (by omega) (wrap64 (Int.tdiv a0 10)) t757 _ A3.out).mono ?_);rintro e w9 ⟨rfl,hb⟩;refine ⟨_,rfl,?_⟩;replace HO756 := am (Kd.zQw (pR HO756.out) hb);replace HB := bS hb;(try clear hb)))
   go_ret
   exact ⟨pE,pB⟩
  ·rw [if_neg c4] at H
   cases H
 ·rw [if_neg c2] at H;have c2b0 : decide (10 ≤ a0) = false := decide_eq_false c2;clear c2;obtain rfl := Option.some.inj H;go_enter Tryz.func21,Tryz.ntmps21;go_wp2_with (first | ((with_reducible refine zQE (N := 8) rfl ?_);refine Kd.R_lit (Kd.int .u8) _ 5 ?hg (N := 8) ?hd (xs := ([(48 + ((Int.tmod a0 10) % 256)) % 256] : List Int)) (inner := [.int .u8 ((48 + ((Int.tmod a0 10) % 256)) % 256)]) (ok := fun _ => True) (okp := fun _ => True) ?hr ?hp (fun _ hk => hk) trivial (Below.refl _ _) (Nat.le_refl _) (by simp) ?_;(case hd => rfl);(case hg => rfl);(case hr => first | (go_simp;done) | (go_simp;rfl));(case hp => exact (Reps.one (show Kd.M (Kd.int .u8) _ _ _ ((48 + ((Int.tmod a0 10) % 256)) % 256) [.int .u8 ((48 + ((Int.tmod a0 10) % 256)) % 256)] from rfl) (Reps.none _ _)));intro v755 w10 ho11 hb hg_ hnew_;clear hg_ hnew_;(first | rw [← Ny754.out] at ho11 | (simp only [Int.reduceToNat] at ho11;rw [← Ny754.out] at ho11));have HO756 := am (Kd.zQr ho11 (zQa pB));replace HB := bS hb;clear hb ho11;have hcv12 := zXS (P := Tryz.prog) Tryz.underlying75 Tryz.underlying5 Tryz.underlying9 (Kd.zYe HO756.out);try have hcq13 := fun n_ : Nat => zXS (P := Tryz.prog) Tryz.underlying75 Tryz.underlying5 Tryz.underlying9 (Kd.zYe (Kd.zQj HO756.out n_))))
  go_ret
  exact ⟨pE,pB⟩
end Go.Proofs.YtflcanpajgpghaaGreatDoor.Pr
end
section
namespace Go.Proofs.YtflcanpajgpghaaGreatDoor.Pr
open Go.RowKit Go.Proofs.YtflcanpajgpghaaGreatDoorW.PrintWords Go.Proofs.YtflcanpajgpghaaGreatDoorW.PrintLast Go.Proofs.YtflcanpajgpghaaGreatDoorW.PrintMore
attribute [local go_sem] zXe zXc zXn zXm zQV zQU zXd zXb
mutual
def r5_Print.j0 : Nat → Int → ByteArray → Option (ByteArray)
 | 0,_,_ => none
 | k + 1,x0,x3 => (r1_Kind.f k x0).bind fun t759 => (if t759 = 4 then (some (⟨#[110,97,110]⟩ : ByteArray)) else (if t759 = 3 then (if x3.size + 3 ≤ 9223372036854775807 then (some (x3 ++ (⟨#[105,110,102]⟩ : ByteArray))) else (none)) else (if t759 = 0 then (if x3.size + 1 ≤ 9223372036854775807 then (some (x3 ++ (⟨#[48]⟩ : ByteArray))) else (none)) else ((r5_Shortest.f k (Go.bits .andNot .u64 x0 9223372036854775808)).bind fun bt760 => (if bt760.2 ≥ (-7) then (r5_Print.j1 k x3 bt760.1 bt760.2 (decide (bt760.2 < 0))) else (r5_Print.j1 k x3 bt760.1 bt760.2 false))))))
def r5_Print.j1 : Nat → ByteArray → ByteArray → Int → Bool → Option (ByteArray)
 | 0,_,_,_,_ => none
 | k + 1,x3,x4,x5,x31 => if x31 = true then (if x3.size + 2 ≤ 9223372036854775807 then ((r5_noughts.f k (wrap64 ((wrap64 (-x5)) - 1))).bind fun t762 => (if (x3 ++ (⟨#[48,46]⟩ : ByteArray)).size + t762.size ≤ 9223372036854775807 then (if ((x3 ++ (⟨#[48,46]⟩ : ByteArray)) ++ t762).size + x4.size ≤ 9223372036854775807 then (some (((x3 ++ (⟨#[48,46]⟩ : ByteArray)) ++ t762) ++ x4)) else (none)) else (none))) else (none)) else (if x5 ≥ 0 then (r5_Print.j2 k x3 x4 x5 (decide (x5 ≤ 20))) else (r5_Print.j2 k x3 x4 x5 false))
def r5_Print.j2 : Nat → ByteArray → ByteArray → Int → Bool → Option (ByteArray)
 | 0,_,_,_,_ => none
 | k + 1,x3,x4,x5,x46 => if x46 = true then ((r5_noughts.f k (wrap64 ((wrap64 (x5 + 1)) - (x4.size : Int)))).bind fun t763 => (if x4.size + t763.size ≤ 9223372036854775807 then (if ((x4 ++ t763).size : Int) = (wrap64 (x5 + 1)) then (if x3.size + (x4 ++ t763).size ≤ 9223372036854775807 then (some (x3 ++ (x4 ++ t763))) else (none)) else (if 0 ≤ (wrap64 (x5 + 1)) then (if (wrap64 (x5 + 1)) ≤ ((x4 ++ t763).size : Int) then (if x3.size + ((x4 ++ t763).extract 0 ((wrap64 (x5 + 1)) : Int).toNat).size ≤ 9223372036854775807 then (if (x3 ++ ((x4 ++ t763).extract 0 ((wrap64 (x5 + 1)) : Int).toNat)).size + 1 ≤ 9223372036854775807 then (if ((x3 ++ ((x4 ++ t763).extract 0 ((wrap64 (x5 + 1)) : Int).toNat)) ++ (⟨#[46]⟩ : ByteArray)).size + ((x4 ++ t763).extract ((wrap64 (x5 + 1)) : Int).toNat (x4 ++ t763).size).size ≤ 9223372036854775807 then (some (((x3 ++ ((x4 ++ t763).extract 0 ((wrap64 (x5 + 1)) : Int).toNat)) ++ (⟨#[46]⟩ : ByteArray)) ++ ((x4 ++ t763).extract ((wrap64 (x5 + 1)) : Int).toNat (x4 ++ t763).size))) else (none)) else (none)) else (none)) else (none)) else (none))) else (none))) else (if (x4.size : Int) > 1 then (if 0 ≤ 1 then (if 1 ≤ (x4.size : Int) then (if (x4.extract 0 1).size + 1 ≤ 9223372036854775807 then (if ((x4.extract 0 1) ++ (⟨#[46]⟩ : ByteArray)).size + (x4.extract 1 x4.size).size ≤ 9223372036854775807 then (r5_Print.j3 k x3 (((x4.extract 0 1) ++ (⟨#[46]⟩ : ByteArray)) ++ (x4.extract 1 x4.size)) x5) else (none)) else (none)) else (none)) else (none)) else (r5_Print.j3 k x3 x4 x5))
def r5_Print.j3 : Nat → ByteArray → ByteArray → Int → Option (ByteArray)
 | 0,_,_,_ => none
 | k + 1,x3,x4,x5 => if x5 < 0 then (if x3.size + x4.size ≤ 9223372036854775807 then (if (x3 ++ x4).size + 2 ≤ 9223372036854775807 then ((r5_number.f k (wrap64 (-x5))).bind fun t764 => (if ((x3 ++ x4) ++ (⟨#[101,45]⟩ : ByteArray)).size + t764.size ≤ 9223372036854775807 then (some (((x3 ++ x4) ++ (⟨#[101,45]⟩ : ByteArray)) ++ t764)) else (none))) else (none)) else (none)) else (if x3.size + x4.size ≤ 9223372036854775807 then (if (x3 ++ x4).size + 2 ≤ 9223372036854775807 then ((r5_number.f k x5).bind fun t765 => (if ((x3 ++ x4) ++ (⟨#[101,43]⟩ : ByteArray)).size + t765.size ≤ 9223372036854775807 then (some (((x3 ++ x4) ++ (⟨#[101,43]⟩ : ByteArray)) ++ t765)) else (none))) else (none)) else (none))
end
def r5_Print.f (k : Nat) (a0 : Int) : Option (ByteArray) := (r1_Neg.f a0).bind fun t758 => (if t758 = true then (r5_Print.j0 k a0 (⟨#[45]⟩ : ByteArray)) else (r5_Print.j0 k a0 (⟨#[]⟩ : ByteArray)))
set_option maxHeartbeats 8000000 in
set_option maxRecDepth 100000 in
theorem r5_Print.calls (k : Nat) (a0 : Int) (r : ByteArray) (w : World) (h : r5_Print.f k a0 = some r) :
  Calls Tryz.prog 9 #[.int .u64 a0] w fun e w' => e = .returned (.string r) ∧ Below w.heap.size w w' := by
 have HB := am (Below.refl w.heap.size w);have H : ((r1_Neg.f a0).bind fun t758 => (if t758 = true then (r5_Print.j0 k a0 (⟨#[45]⟩ : ByteArray)) else (r5_Print.j0 k a0 (⟨#[]⟩ : ByteArray)))) = some r := h;clear h;obtain ⟨t758,A2,H⟩ := oB H;(try dsimp only at H);have HC3 := am H;clear H;go_enter Tryz.func9,Tryz.ntmps9
 go_upto_if 7 with (first | (go_at_call 17;(with_reducible refine (r1_Neg.calls a0 t758 _ A2.out).mono ?_);rintro e w' ⟨rfl,⟨nd,rfl⟩⟩;(try first | exact ⟨rfl,_,World.drewN_drewN _ _ _⟩ | exact ⟨rfl,_,Eq.trans (World.drewN_drewN _ _ _) (congrArg (World.drewN _) (Nat.add_assoc _ _ _))⟩)))
 (repeat (go_quiet (first | (go_at_call 17;(with_reducible refine (r1_Neg.calls a0 t758 _ A2.out).mono ?_);rintro e w' ⟨rfl,⟨nd,rfl⟩⟩;(try first | exact ⟨rfl,_,World.drewN_drewN _ _ _⟩ | exact ⟨rfl,_,Eq.trans (World.drewN_drewN _ _ _) (congrArg (World.drewN _) (Nat.add_assoc _ _ _))⟩)));go_upto_if 7 with (first | (go_at_call 17;(with_reducible refine (r1_Neg.calls a0 t758 _ A2.out).mono ?_);rintro e w' ⟨rfl,⟨nd,rfl⟩⟩;(try first | exact ⟨rfl,_,World.drewN_drewN _ _ _⟩ | exact ⟨rfl,_,Eq.trans (World.drewN_drewN _ _ _) (congrArg (World.drewN _) (Nat.add_assoc _ _ _))⟩)))));(try simp only [Act.put,List.setIfInBounds_toArray,List.set_cons_zero,List.set_cons_succ])
 go_cut [3] (fun v3 wc => ∃ (kq : Nat) (x3_2 : ByteArray),v3 = .string x3_2 ∧ Aside0 (r5_Print.j0 kq a0 x3_2 = some r) ∧ Aside0 (kq ≤ k) ∧ Aside0 (Below w.heap.size w wc))
 case first =>
  have H := HC3.out;clear HC3;by_cases c4 : t758 = true
  ·subst c4;rw [if_pos rfl] at H;have H' := am H;clear H;go_wp2;(repeat (go_quiet (fail);try go_wp2));go_meet
   case rel => exact ⟨_,((⟨#[45]⟩ : ByteArray)),pS,H',⟨by first | omega | exact Nat.le_refl _⟩,⟨pB⟩⟩
  ·replace c4 := Bool.eq_false_iff.mpr c4;subst c4;rw [if_neg (show ¬ (false = true) by decide)] at H;have H' := am H;clear H;go_wp2;(repeat (go_quiet (fail);try go_wp2));go_meet
   case rel => exact ⟨_,((⟨#[]⟩ : ByteArray)),pS,H',⟨by first | omega | exact Nat.le_refl _⟩,⟨pB⟩⟩
 case rest =>
  clear HC3;(try clear p2);(try clear c4);obtain ⟨kq,x3_2,rfl,HA,HJ2,HB⟩ := hcut
  cases kq with
  | zero => exact absurd HA.out (by simp [r5_Print.j0])
  | succ kj2 =>
   have H := HA.out;clear HA;simp only [r5_Print.j0] at H;obtain ⟨t759,A5,H⟩ := oB H;(try dsimp only at H);by_cases c6 : t759 = 4
   ·rw [if_pos c6] at H;have c6b0 : (t759 == 4) = true := beq_iff_eq.mpr c6;have c6b1 : (t759 != 4) = false := bne_eq_false_iff_eq.mpr c6;clear c6;obtain rfl := Option.some.inj H;(go_wp2_with (first | (go_at_call 18;(with_reducible refine (r1_Kind.calls kj2 a0 t759 _ A5.out).mono ?_);rintro e w' ⟨rfl,⟨nd,rfl⟩⟩;(try first | exact ⟨rfl,_,World.drewN_drewN _ _ _⟩ | exact ⟨rfl,_,Eq.trans (World.drewN_drewN _ _ _) (congrArg (World.drewN _) (Nat.add_assoc _ _ _))⟩))));repeat (go_quiet (first | (go_at_call 18;(with_reducible refine (r1_Kind.calls kj2 a0 t759 _ A5.out).mono ?_);rintro e w' ⟨rfl,⟨nd,rfl⟩⟩;(try first | exact ⟨rfl,_,World.drewN_drewN _ _ _⟩ | exact ⟨rfl,_,Eq.trans (World.drewN_drewN _ _ _) (congrArg (World.drewN _) (Nat.add_assoc _ _ _))⟩)));try go_wp2_with (first | (go_at_call 18;(with_reducible refine (r1_Kind.calls kj2 a0 t759 _ A5.out).mono ?_);rintro e w' ⟨rfl,⟨nd,rfl⟩⟩;(try first | exact ⟨rfl,_,World.drewN_drewN _ _ _⟩ | exact ⟨rfl,_,Eq.trans (World.drewN_drewN _ _ _) (congrArg (World.drewN _) (Nat.add_assoc _ _ _))⟩))))
    go_ret
    exact ⟨pE,pB⟩
   ·rw [if_neg c6] at H;have c6b0 : (t759 == 4) = false := beq_eq_false_iff_ne.mpr c6;have c6b1 : (t759 != 4) = true := bne_iff_ne.mpr c6;by_cases c7 : t759 = 3
    ·rw [if_pos c7] at H;have c7b0 : (t759 == 3) = true := beq_iff_eq.mpr c7;have c7b1 : (t759 != 3) = false := bne_eq_false_iff_eq.mpr c7;clear c7;by_cases c8 : x3_2.size + 3 ≤ 9223372036854775807
     ·rw [if_pos c8] at H;have c8b0 := eq_true c8;have c8b1 : decide (x3_2.size + 3 ≤ 9223372036854775807) = true := decide_eq_true c8;(try have c8b2 : (9223372036854775807 < x3_2.size + 3) = False := eq_false (Nat.not_lt.2 c8));obtain rfl := Option.some.inj H;(go_wp2_with (first | (go_at_call 18;(with_reducible refine (r1_Kind.calls kj2 a0 t759 _ A5.out).mono ?_);rintro e w' ⟨rfl,⟨nd,rfl⟩⟩;(try first | exact ⟨rfl,_,World.drewN_drewN _ _ _⟩ | exact ⟨rfl,_,Eq.trans (World.drewN_drewN _ _ _) (congrArg (World.drewN _) (Nat.add_assoc _ _ _))⟩))));repeat (go_quiet (first | (go_at_call 18;(with_reducible refine (r1_Kind.calls kj2 a0 t759 _ A5.out).mono ?_);rintro e w' ⟨rfl,⟨nd,rfl⟩⟩;(try first | exact ⟨rfl,_,World.drewN_drewN _ _ _⟩ | exact ⟨rfl,_,Eq.trans (World.drewN_drewN _ _ _) (congrArg (World.drewN _) (Nat.add_assoc _ _ _))⟩)));try go_wp2_with (first | (go_at_call 18;(with_reducible refine (r1_Kind.calls kj2 a0 t759 _ A5.out).mono ?_);rintro e w' ⟨rfl,⟨nd,rfl⟩⟩;(try first | exact ⟨rfl,_,World.drewN_drewN _ _ _⟩ | exact ⟨rfl,_,Eq.trans (World.drewN_drewN _ _ _) (congrArg (World.drewN _) (Nat.add_assoc _ _ _))⟩))))
      go_ret
      exact ⟨pE,pB⟩
     ·rw [if_neg c8] at H
      cases H
    ·rw [if_neg c7] at H;have c7b0 : (t759 == 3) = false := beq_eq_false_iff_ne.mpr c7;have c7b1 : (t759 != 3) = true := bne_iff_ne.mpr c7;by_cases c9 : t759 = 0
     ·rw [if_pos c9] at H;have c9b0 : (t759 == 0) = true := beq_iff_eq.mpr c9;have c9b1 : (t759 != 0) = false := bne_eq_false_iff_eq.mpr c9;clear c9;by_cases c10 : x3_2.size + 1 ≤ 9223372036854775807
      ·rw [if_pos c10] at H;have c10b0 := eq_true c10;have c10b1 : decide (x3_2.size + 1 ≤ 9223372036854775807) = true := decide_eq_true c10;(try have c10b2 : (9223372036854775807 < x3_2.size + 1) = False := eq_false (Nat.not_lt.2 c10));obtain rfl := Option.some.inj H;(go_wp2_with (first | (go_at_call 18;(with_reducible refine (r1_Kind.calls kj2 a0 t759 _ A5.out).mono ?_);rintro e w' ⟨rfl,⟨nd,rfl⟩⟩;(try first | exact ⟨rfl,_,World.drewN_drewN _ _ _⟩ | exact ⟨rfl,_,Eq.trans (World.drewN_drewN _ _ _) (congrArg (World.drewN _) (Nat.add_assoc _ _ _))⟩))));repeat (go_quiet (first | (go_at_call 18;(with_reducible refine (r1_Kind.calls kj2 a0 t759 _ A5.out).mono ?_);rintro e w' ⟨rfl,⟨nd,rfl⟩⟩;(try first | exact ⟨rfl,_,World.drewN_drewN _ _ _⟩ | exact ⟨rfl,_,Eq.trans (World.drewN_drewN _ _ _) (congrArg (World.drewN _) (Nat.add_assoc _ _ _))⟩)));try go_wp2_with (first | (go_at_call 18;(with_reducible refine (r1_Kind.calls kj2 a0 t759 _ A5.out).mono ?_);rintro e w' ⟨rfl,⟨nd,rfl⟩⟩;(try first | exact ⟨rfl,_,World.drewN_drewN _ _ _⟩ | exact ⟨rfl,_,Eq.trans (World.drewN_drewN _ _ _) (congrArg (World.drewN _) (Nat.add_assoc _ _ _))⟩))))
       go_ret
       exact ⟨pE,pB⟩
      ·rw [if_neg c10] at H
       cases H
     ·rw [if_neg c9] at H;have c9b0 : (t759 == 0) = false := beq_eq_false_iff_ne.mpr c9;have c9b1 : (t759 != 0) = true := bne_iff_ne.mpr c9;obtain ⟨⟨t760,t761⟩,A11,H⟩ := oB H;(try dsimp only at H);have HC12 := am H;clear H;(go_upto_region 12 with (first | (go_at_call 18;(with_reducible refine (r1_Kind.calls kj2 a0 t759 _ A5.out).mono ?_);rintro e w' ⟨rfl,⟨nd,rfl⟩⟩;(try first | exact ⟨rfl,_,World.drewN_drewN _ _ _⟩ | exact ⟨rfl,_,Eq.trans (World.drewN_drewN _ _ _) (congrArg (World.drewN _) (Nat.add_assoc _ _ _))⟩)) | (go_at_call 19;(with_reducible refine (r5_Shortest.calls kj2 (Go.bits .andNot .u64 a0 9223372036854775808) t760 t761 _ A11.out).mono ?_);rintro e w13 ⟨rfl,hb⟩;replace HB := bS hb;(try clear hb))));(repeat (go_quiet (first | (go_at_call 18;(with_reducible refine (r1_Kind.calls kj2 a0 t759 _ A5.out).mono ?_);rintro e w' ⟨rfl,⟨nd,rfl⟩⟩;(try first | exact ⟨rfl,_,World.drewN_drewN _ _ _⟩ | exact ⟨rfl,_,Eq.trans (World.drewN_drewN _ _ _) (congrArg (World.drewN _) (Nat.add_assoc _ _ _))⟩)) | (go_at_call 19;(with_reducible refine (r5_Shortest.calls kj2 (Go.bits .andNot .u64 a0 9223372036854775808) t760 t761 _ A11.out).mono ?_);rintro e w13 ⟨rfl,hb⟩;replace HB := bS hb;(try clear hb)));go_upto_region 12 with (first | (go_at_call 18;(with_reducible refine (r1_Kind.calls kj2 a0 t759 _ A5.out).mono ?_);rintro e w' ⟨rfl,⟨nd,rfl⟩⟩;(try first | exact ⟨rfl,_,World.drewN_drewN _ _ _⟩ | exact ⟨rfl,_,Eq.trans (World.drewN_drewN _ _ _) (congrArg (World.drewN _) (Nat.add_assoc _ _ _))⟩)) | (go_at_call 19;(with_reducible refine (r5_Shortest.calls kj2 (Go.bits .andNot .u64 a0 9223372036854775808) t760 t761 _ A11.out).mono ?_);rintro e w13 ⟨rfl,hb⟩;replace HB := bS hb;(try clear hb)))));(try simp only [Act.put,List.setIfInBounds_toArray,List.set_cons_zero,List.set_cons_succ])
      go_cut [31] (fun v31 wc => ∃ (kq : Nat) (x31_11 : Bool),v31 = .bool x31_11 ∧ Aside0 (r5_Print.j1 kq x3_2 t760 t761 x31_11 = some r) ∧ Aside0 (kq ≤ kj2) ∧ Aside0 (Below w.heap.size w wc))
      case first =>
       have H := HC12.out;clear HC12;by_cases c14 : t761 ≥ (-7)
       ·rw [if_pos c14] at H;have c14b0 : decide ((-7) ≤ t761) = true := decide_eq_true c14;clear c14;(first | rw [c14b0] | (simp only [i64_w,i32_w];rw [c14b0]) | rw [c14b1] | (simp only [i64_w,i32_w];rw [c14b1]) | skip);have H' := am H;clear H;go_wp2;(repeat (go_quiet (fail);try go_wp2));go_meet
        case rel => exact ⟨_,(decide (t761 < 0)),pS,H',⟨by have := HJ2.out;first | omega | exact Nat.le_refl _⟩,⟨pB⟩⟩
       ·rw [if_neg c14] at H;have c14b0 : decide ((-7) ≤ t761) = false := decide_eq_false c14;clear c14;(first | rw [c14b0] | (simp only [i64_w,i32_w];rw [c14b0]) | rw [c14b1] | (simp only [i64_w,i32_w];rw [c14b1]) | skip);have H' := am H;clear H;go_wp2;(repeat (go_quiet (fail);try go_wp2));go_meet
        case rel => exact ⟨_,(false),pS,H',⟨by have := HJ2.out;first | omega | exact Nat.le_refl _⟩,⟨pB⟩⟩
      case rest =>
       clear HC12;(try clear c1);(try clear p2);(try clear c4);(try clear c6);(try clear c6b0);(try clear c6b1);(try clear c7);(try clear c7b0);(try clear c7b1);(try clear c8);(try clear c8b0);(try clear c8b1);(try clear c8b2);(try clear c9);(try clear c9b0);(try clear c9b1);(try clear c10);(try clear c10b0);(try clear c10b1);(try clear c10b2);(try clear c14);(try clear c14b0);(try clear c14b1);(try clear p2);obtain ⟨kq,x31_11,rfl,HA,HJ11,HB⟩ := hcut
       cases kq with
       | zero => exact absurd HA.out (by simp [r5_Print.j1])
       | succ kj11 =>
        have H := HA.out;clear HA;simp only [r5_Print.j1] at H;by_cases c15 : x31_11 = true
        ·subst c15;rw [if_pos rfl] at H;by_cases c16 : x3_2.size + 2 ≤ 9223372036854775807
         ·rw [if_pos c16] at H;have c16b0 := eq_true c16;have c16b1 : decide (x3_2.size + 2 ≤ 9223372036854775807) = true := decide_eq_true c16;(try have c16b2 : (9223372036854775807 < x3_2.size + 2) = False := eq_false (Nat.not_lt.2 c16));obtain ⟨t762,A17,H⟩ := oB H;(try dsimp only at H);by_cases c18 : (x3_2 ++ (⟨#[48,46]⟩ : ByteArray)).size + t762.size ≤ 9223372036854775807
          ·rw [if_pos c18] at H;have c18b0 := eq_true c18;have c18b1 : decide ((x3_2 ++ (⟨#[48,46]⟩ : ByteArray)).size + t762.size ≤ 9223372036854775807) = true := decide_eq_true c18;(try have c18b2 : (9223372036854775807 < (x3_2 ++ (⟨#[48,46]⟩ : ByteArray)).size + t762.size) = False := eq_false (Nat.not_lt.2 c18));(try have c18b3 : (9223372036854775807 < x3_2.size + 2 + t762.size) = False := by have h_ := c18b2;simp only [ByteArray.size_append] at h_;exact h_);by_cases c19 : ((x3_2 ++ (⟨#[48,46]⟩ : ByteArray)) ++ t762).size + t760.size ≤ 9223372036854775807
           ·rw [if_pos c19] at H;have c19b0 := eq_true c19;have c19b1 : decide (((x3_2 ++ (⟨#[48,46]⟩ : ByteArray)) ++ t762).size + t760.size ≤ 9223372036854775807) = true := decide_eq_true c19;(try have c19b2 : (9223372036854775807 < ((x3_2 ++ (⟨#[48,46]⟩ : ByteArray)) ++ t762).size + t760.size) = False := eq_false (Nat.not_lt.2 c19));(try have c19b3 : (9223372036854775807 < x3_2.size + 2 + t762.size + t760.size) = False := by have h_ := c19b2;simp only [ByteArray.size_append] at h_;exact h_);obtain rfl := Option.some.inj H;(go_wp2_with (first | (go_at_call 20;(with_reducible refine (r5_noughts.calls kj11 (wrap64 ((wrap64 (-t761)) - 1)) t762 _ A17.out).mono ?_);rintro e w' ⟨rfl,⟨nd,rfl⟩⟩;(try first | exact ⟨rfl,_,World.drewN_drewN _ _ _⟩ | exact ⟨rfl,_,Eq.trans (World.drewN_drewN _ _ _) (congrArg (World.drewN _) (Nat.add_assoc _ _ _))⟩))));repeat (go_quiet (first | (go_at_call 20;(with_reducible refine (r5_noughts.calls kj11 (wrap64 ((wrap64 (-t761)) - 1)) t762 _ A17.out).mono ?_);rintro e w' ⟨rfl,⟨nd,rfl⟩⟩;(try first | exact ⟨rfl,_,World.drewN_drewN _ _ _⟩ | exact ⟨rfl,_,Eq.trans (World.drewN_drewN _ _ _) (congrArg (World.drewN _) (Nat.add_assoc _ _ _))⟩)));try go_wp2_with (first | (go_at_call 20;(with_reducible refine (r5_noughts.calls kj11 (wrap64 ((wrap64 (-t761)) - 1)) t762 _ A17.out).mono ?_);rintro e w' ⟨rfl,⟨nd,rfl⟩⟩;(try first | exact ⟨rfl,_,World.drewN_drewN _ _ _⟩ | exact ⟨rfl,_,Eq.trans (World.drewN_drewN _ _ _) (congrArg (World.drewN _) (Nat.add_assoc _ _ _))⟩))))
            go_ret
            exact ⟨pE,pB⟩
           ·rw [if_neg c19] at H
            cases H
          ·rw [if_neg c18] at H
           cases H
         ·rw [if_neg c16] at H
          cases H
        ·replace c15 := Bool.eq_false_iff.mpr c15;subst c15;rw [if_neg (show ¬ (false = true) by decide)] at H;have HC20 := am H;clear H;(go_upto_region 14 with (fail));repeat (go_quiet (fail);go_upto_region 14 with (fail))
         go_cut [46] (fun v46 wc => ∃ (kq : Nat) (x46_19 : Bool),v46 = .bool x46_19 ∧ Aside0 (r5_Print.j2 kq x3_2 t760 t761 x46_19 = some r) ∧ Aside0 (kq ≤ kj11) ∧ Aside0 (Below w.heap.size w wc))
         case first =>
          have H := HC20.out;clear HC20;by_cases c21 : t761 ≥ 0
          ·rw [if_pos c21] at H;have c21b0 : decide (0 ≤ t761) = true := decide_eq_true c21;clear c21;(first | rw [c21b0] | (simp only [i64_w,i32_w];rw [c21b0]) | rw [c21b1] | (simp only [i64_w,i32_w];rw [c21b1]) | skip);have H' := am H;clear H;go_wp2;(repeat (go_quiet (fail);try go_wp2));go_meet
           case rel => exact ⟨_,(decide (t761 ≤ 20)),pS,H',⟨by have := HJ2.out;have := HJ11.out;first | omega | exact Nat.le_refl _⟩,⟨pB⟩⟩
          ·rw [if_neg c21] at H;have c21b0 : decide (0 ≤ t761) = false := decide_eq_false c21;clear c21;(first | rw [c21b0] | (simp only [i64_w,i32_w];rw [c21b0]) | rw [c21b1] | (simp only [i64_w,i32_w];rw [c21b1]) | skip);have H' := am H;clear H;go_wp2;(repeat (go_quiet (fail);try go_wp2));go_meet
           case rel => exact ⟨_,(false),pS,H',⟨by have := HJ2.out;have := HJ11.out;first | omega | exact Nat.le_refl _⟩,⟨pB⟩⟩
         case rest =>
          clear HC20;(try clear c1);(try clear c2);(try clear p2);(try clear c4);(try clear c6);(try clear c6b0);(try clear c6b1);(try clear p6);(try clear c7);(try clear c7b0);(try clear c7b1);(try clear c8);(try clear c8b0);(try clear c8b1);(try clear c8b2);(try clear c9);(try clear c9b0);(try clear c9b1);(try clear c10);(try clear c10b0);(try clear c10b1);(try clear c10b2);(try clear c14);(try clear c14b0);(try clear c14b1);(try clear c15);(try clear c16);(try clear c16b0);(try clear c16b1);(try clear c16b2);(try clear c18);(try clear c18b0);(try clear c18b1);(try clear c18b2);(try clear c19);(try clear c19b0);(try clear c19b1);(try clear c19b2);(try clear c21);(try clear c21b0);(try clear c21b1);(try clear p2);obtain ⟨kq,x46_19,rfl,HA,HJ19,HB⟩ := hcut
          cases kq with
          | zero => exact absurd HA.out (by simp [r5_Print.j2])
          | succ kj19 =>
           have H := HA.out;clear HA;simp only [r5_Print.j2] at H;by_cases c22 : x46_19 = true
           ·subst c22;rw [if_pos rfl] at H;obtain ⟨t763,A23,H⟩ := oB H;(try dsimp only at H);obtain ⟨js_,hjs_⟩ : ∃ j_ : ByteArray,t760 ++ t763 = j_ := ⟨_,rfl⟩;rw [hjs_] at H;by_cases c24 : t760.size + t763.size ≤ 9223372036854775807
            ·rw [if_pos c24] at H;have c24b0 := eq_true c24;have c24b1 : decide (t760.size + t763.size ≤ 9223372036854775807) = true := decide_eq_true c24;(try have c24b2 : (9223372036854775807 < t760.size + t763.size) = False := eq_false (Nat.not_lt.2 c24));by_cases c25 : (js_.size : Int) = (wrap64 (t761 + 1))
             ·rw [if_pos c25] at H;have c25b0 : ((js_.size : Int) == (wrap64 (t761 + 1))) = true := beq_iff_eq.mpr c25;have c25b1 : ((js_.size : Int) != (wrap64 (t761 + 1))) = false := bne_eq_false_iff_eq.mpr c25;clear c25;by_cases c26 : x3_2.size + js_.size ≤ 9223372036854775807
              ·rw [if_pos c26] at H;have c26b0 := eq_true c26;have c26b1 : decide (x3_2.size + js_.size ≤ 9223372036854775807) = true := decide_eq_true c26;(try have c26b2 : (9223372036854775807 < x3_2.size + js_.size) = False := eq_false (Nat.not_lt.2 c26));(try have c26b3 : (9223372036854775807 < x3_2.size + t760.size + t763.size) = False := by have h_ := c26b2;simp only [ByteArray.size_append] at h_;exact h_);obtain rfl := Option.some.inj H;(go_wp2_with (first | (go_at_call 20;(with_reducible refine (r5_noughts.calls kj19 (wrap64 ((wrap64 (t761 + 1)) - (t760.size : Int))) t763 _ A23.out).mono ?_);rintro e w' ⟨rfl,⟨nd,rfl⟩⟩;(try first | exact ⟨rfl,_,World.drewN_drewN _ _ _⟩ | exact ⟨rfl,_,Eq.trans (World.drewN_drewN _ _ _) (congrArg (World.drewN _) (Nat.add_assoc _ _ _))⟩))));repeat (go_quiet (first | (go_at_call 20;(with_reducible refine (r5_noughts.calls kj19 (wrap64 ((wrap64 (t761 + 1)) - (t760.size : Int))) t763 _ A23.out).mono ?_);rintro e w' ⟨rfl,⟨nd,rfl⟩⟩;(try first | exact ⟨rfl,_,World.drewN_drewN _ _ _⟩ | exact ⟨rfl,_,Eq.trans (World.drewN_drewN _ _ _) (congrArg (World.drewN _) (Nat.add_assoc _ _ _))⟩)));try go_wp2_with (first | (go_at_call 20;(with_reducible refine (r5_noughts.calls kj19 (wrap64 ((wrap64 (t761 + 1)) - (t760.size : Int))) t763 _ A23.out).mono ?_);rintro e w' ⟨rfl,⟨nd,rfl⟩⟩;(try first | exact ⟨rfl,_,World.drewN_drewN _ _ _⟩ | exact ⟨rfl,_,Eq.trans (World.drewN_drewN _ _ _) (congrArg (World.drewN _) (Nat.add_assoc _ _ _))⟩))))
               go_ret
               exact ⟨pE,pB⟩
              ·rw [if_neg c26] at H
               cases H
             ·rw [if_neg c25] at H;have c25b0 : ((js_.size : Int) == (wrap64 (t761 + 1))) = false := beq_eq_false_iff_ne.mpr c25;have c25b1 : ((js_.size : Int) != (wrap64 (t761 + 1))) = true := bne_iff_ne.mpr c25;obtain ⟨ji27,hji27⟩ : ∃ j_ : Int,(wrap64 (t761 + 1)) = j_ := ⟨_,rfl⟩;(replace H : (if 0 ≤ (ji27) then (if (ji27) ≤ (js_.size : Int) then (if x3_2.size + (js_.extract 0 ((ji27) : Int).toNat).size ≤ 9223372036854775807 then (if (x3_2 ++ (js_.extract 0 ((ji27) : Int).toNat)).size + 1 ≤ 9223372036854775807 then (if ((x3_2 ++ (js_.extract 0 ((ji27) : Int).toNat)) ++ (⟨#[46]⟩ : ByteArray)).size + (js_.extract ((ji27) : Int).toNat js_.size).size ≤ 9223372036854775807 then (some (((x3_2 ++ (js_.extract 0 ((ji27) : Int).toNat)) ++ (⟨#[46]⟩ : ByteArray)) ++ (js_.extract ((ji27) : Int).toNat js_.size))) else (none)) else (none)) else (none)) else (none)) else (none)) = some r := by first | (rw [hji27] at H;exact H) | (simp only [hji27] at H ⊢;exact H));(try rw [hji27] at c25b0);(try rw [hji27] at c25b1);(try rw [hji27] at A23);have hji27w : (IntKind.i64.wrap (t761 + 1)) = ji27 := (i64_w _).trans hji27;by_cases c28 : 0 ≤ (ji27)
              ·rw [if_pos c28] at H;have c28b0 := eq_true c28;have c28b1 : decide (0 ≤ (ji27)) = true := decide_eq_true c28;clear c28;by_cases c29 : (ji27) ≤ (js_.size : Int)
               ·rw [if_pos c29] at H;have c29b0 := eq_true c29;have c29b1 : decide ((ji27) ≤ (js_.size : Int)) = true := decide_eq_true c29;obtain ⟨ji30,hji30⟩ : ∃ j_ : ByteArray,(js_.extract 0 ((ji27) : Int).toNat) = j_ := ⟨_,rfl⟩;(replace H : (if x3_2.size + (ji30).size ≤ 9223372036854775807 then (if (x3_2 ++ (ji30)).size + 1 ≤ 9223372036854775807 then (if ((x3_2 ++ (ji30)) ++ (⟨#[46]⟩ : ByteArray)).size + (js_.extract ((ji27) : Int).toNat js_.size).size ≤ 9223372036854775807 then (some (((x3_2 ++ (ji30)) ++ (⟨#[46]⟩ : ByteArray)) ++ (js_.extract ((ji27) : Int).toNat js_.size))) else (none)) else (none)) else (none)) = some r := by first | (rw [hji30] at H;exact H) | (simp only [hji30] at H ⊢;exact H) | exact H);(try rw [hji30] at A23);by_cases c31 : x3_2.size + (ji30).size ≤ 9223372036854775807
                ·rw [if_pos c31] at H;have c31b0 := eq_true c31;have c31b1 : decide (x3_2.size + (ji30).size ≤ 9223372036854775807) = true := decide_eq_true c31;(try have c31b2 : (9223372036854775807 < x3_2.size + (ji30).size) = False := eq_false (Nat.not_lt.2 c31));by_cases c32 : (x3_2 ++ (ji30)).size + 1 ≤ 9223372036854775807
                 ·rw [if_pos c32] at H;have c32b0 := eq_true c32;have c32b1 : decide ((x3_2 ++ (ji30)).size + 1 ≤ 9223372036854775807) = true := decide_eq_true c32;(try have c32b2 : (9223372036854775807 < (x3_2 ++ (ji30)).size + 1) = False := eq_false (Nat.not_lt.2 c32));(try have c32b3 : (9223372036854775807 < x3_2.size + ji30.size + 1) = False := by have h_ := c32b2;simp only [ByteArray.size_append] at h_;exact h_);have c33b0 := eq_true (pD : 0 ≤ (ji27));have c34b0 := eq_true (pD : (ji27) ≤ (js_.size : Int));obtain ⟨ji35,hji35⟩ : ∃ j_ : ByteArray,(js_.extract ((ji27) : Int).toNat js_.size) = j_ := ⟨_,rfl⟩;(replace H : (if ((x3_2 ++ (ji30)) ++ (⟨#[46]⟩ : ByteArray)).size + (ji35).size ≤ 9223372036854775807 then (some (((x3_2 ++ (ji30)) ++ (⟨#[46]⟩ : ByteArray)) ++ (ji35))) else (none)) = some r := by first | (rw [hji35] at H;exact H) | (simp only [hji35] at H ⊢;exact H) | exact H);(try rw [hji35] at A23);by_cases c36 : ((x3_2 ++ (ji30)) ++ (⟨#[46]⟩ : ByteArray)).size + (ji35).size ≤ 9223372036854775807
                  ·rw [if_pos c36] at H;have c36b0 := eq_true c36;have c36b1 : decide (((x3_2 ++ (ji30)) ++ (⟨#[46]⟩ : ByteArray)).size + (ji35).size ≤ 9223372036854775807) = true := decide_eq_true c36;(try have c36b2 : (9223372036854775807 < ((x3_2 ++ (ji30)) ++ (⟨#[46]⟩ : ByteArray)).size + (ji35).size) = False := eq_false (Nat.not_lt.2 c36));(try have c36b3 : (9223372036854775807 < x3_2.size + ji30.size + 1 + ji35.size) = False := by have h_ := c36b2;simp only [ByteArray.size_append] at h_;exact h_);obtain rfl := Option.some.inj H;(go_wp2_with (first | (go_at_call 20;(with_reducible refine (r5_noughts.calls kj19 (wrap64 ((ji27) - (t760.size : Int))) t763 _ A23.out).mono ?_);rintro e w' ⟨rfl,⟨nd,rfl⟩⟩;(try first | exact ⟨rfl,_,World.drewN_drewN _ _ _⟩ | exact ⟨rfl,_,Eq.trans (World.drewN_drewN _ _ _) (congrArg (World.drewN _) (Nat.add_assoc _ _ _))⟩))));repeat (go_quiet (first | (go_at_call 20;(with_reducible refine (r5_noughts.calls kj19 (wrap64 ((ji27) - (t760.size : Int))) t763 _ A23.out).mono ?_);rintro e w' ⟨rfl,⟨nd,rfl⟩⟩;(try first | exact ⟨rfl,_,World.drewN_drewN _ _ _⟩ | exact ⟨rfl,_,Eq.trans (World.drewN_drewN _ _ _) (congrArg (World.drewN _) (Nat.add_assoc _ _ _))⟩)));try go_wp2_with (first | (go_at_call 20;(with_reducible refine (r5_noughts.calls kj19 (wrap64 ((ji27) - (t760.size : Int))) t763 _ A23.out).mono ?_);rintro e w' ⟨rfl,⟨nd,rfl⟩⟩;(try first | exact ⟨rfl,_,World.drewN_drewN _ _ _⟩ | exact ⟨rfl,_,Eq.trans (World.drewN_drewN _ _ _) (congrArg (World.drewN _) (Nat.add_assoc _ _ _))⟩))))
                   go_ret
                   exact ⟨by first | rfl | (simp [zQy,zQx] <;> rfl) | (simp only [← hji27,← hji30,← hji35];first | rfl | (simp [zQy,zQx] <;> rfl)) | (simp [*,zQy,zQx] <;> rfl),pB⟩
                  ·rw [if_neg c36] at H
                   cases H
                 ·rw [if_neg c32] at H
                  cases H
                ·rw [if_neg c31] at H
                 cases H
               ·rw [if_neg c29] at H
                cases H
              ·rw [if_neg c28] at H
               cases H
            ·rw [if_neg c24] at H
             cases H
           ·replace c22 := Bool.eq_false_iff.mpr c22;subst c22;rw [if_neg (show ¬ (false = true) by decide)] at H;have HC37 := am H;clear H
            go_upto_if 77 with (fail)
            repeat (go_quiet (fail);go_upto_if 77 with (fail))
            go_cut [4] (fun v4 wc => ∃ (kq : Nat) (x4_36 : ByteArray),v4 = .string x4_36 ∧ Aside0 (r5_Print.j3 kq x3_2 x4_36 t761 = some r) ∧ Aside0 (kq ≤ kj19) ∧ Aside0 (Below w.heap.size w wc))
            case first =>
             have H := HC37.out;clear HC37;by_cases c38 : (t760.size : Int) > 1
             ·rw [if_pos c38] at H;have c38b0 : decide (1 < (t760.size : Int)) = true := decide_eq_true c38;have c38b1 : decide (1 < t760.size) = true := decide_eq_true (by omega);clear c38;(first | rw [c38b0] | (simp only [i64_w,i32_w];rw [c38b0]) | rw [c38b1] | (simp only [i64_w,i32_w];rw [c38b1]) | skip);by_cases c39 : 0 ≤ 1
              ·rw [if_pos c39] at H;have c39b0 := eq_true c39;have c39b1 : decide (0 ≤ 1) = true := decide_eq_true c39;clear c39;by_cases c40 : 1 ≤ (t760.size : Int)
               ·rw [if_pos c40] at H;have c40b0 := eq_true c40;have c40b1 : decide (1 ≤ (t760.size : Int)) = true := decide_eq_true c40;clear c40;obtain ⟨ji41,hji41⟩ : ∃ j_ : ByteArray,(t760.extract 0 1) = j_ := ⟨_,rfl⟩;(replace H : (if (ji41).size + 1 ≤ 9223372036854775807 then (if ((ji41) ++ (⟨#[46]⟩ : ByteArray)).size + (t760.extract 1 t760.size).size ≤ 9223372036854775807 then (r5_Print.j3 kj19 x3_2 (((ji41) ++ (⟨#[46]⟩ : ByteArray)) ++ (t760.extract 1 t760.size)) t761) else (none)) else (none)) = some r := by first | (rw [hji41] at H;exact H) | (simp only [hji41] at H ⊢;exact H) | exact H);by_cases c42 : (ji41).size + 1 ≤ 9223372036854775807
                ·rw [if_pos c42] at H;have c42b0 := eq_true c42;have c42b1 : decide ((ji41).size + 1 ≤ 9223372036854775807) = true := decide_eq_true c42;(try have c42b2 : (9223372036854775807 < (ji41).size + 1) = False := eq_false (Nat.not_lt.2 c42));have c43b0 := eq_true (pD : 1 ≤ (t760.size : Int));obtain ⟨ji44,hji44⟩ : ∃ j_ : ByteArray,(t760.extract 1 t760.size) = j_ := ⟨_,rfl⟩;(replace H : (if ((ji41) ++ (⟨#[46]⟩ : ByteArray)).size + (ji44).size ≤ 9223372036854775807 then (r5_Print.j3 kj19 x3_2 (((ji41) ++ (⟨#[46]⟩ : ByteArray)) ++ (ji44)) t761) else (none)) = some r := by first | (rw [hji44] at H;exact H) | (simp only [hji44] at H ⊢;exact H) | exact H);by_cases c45 : ((ji41) ++ (⟨#[46]⟩ : ByteArray)).size + (ji44).size ≤ 9223372036854775807
                 ·rw [if_pos c45] at H;have c45b0 := eq_true c45;have c45b1 : decide (((ji41) ++ (⟨#[46]⟩ : ByteArray)).size + (ji44).size ≤ 9223372036854775807) = true := decide_eq_true c45;(try have c45b2 : (9223372036854775807 < ((ji41) ++ (⟨#[46]⟩ : ByteArray)).size + (ji44).size) = False := eq_false (Nat.not_lt.2 c45));(try have c45b3 : (9223372036854775807 < ji41.size + 1 + ji44.size) = False := by have h_ := c45b2;simp only [ByteArray.size_append] at h_;exact h_);have H' := am H;clear H;go_wp2;(repeat (go_quiet (fail);try go_wp2));go_meet
                  case rel => exact ⟨_,(((ji41) ++ (⟨#[46]⟩ : ByteArray)) ++ (ji44)),(by first | rfl | (simp;done) | (simp only [← hji41,← hji44] <;> (first | rfl | simp)) | (simp [*];done)),H',⟨by have := HJ2.out;have := HJ11.out;have := HJ19.out;first | omega | exact Nat.le_refl _⟩,⟨pB⟩⟩
                 ·rw [if_neg c45] at H
                  cases H
                ·rw [if_neg c42] at H
                 cases H
               ·rw [if_neg c40] at H
                cases H
              ·rw [if_neg c39] at H
               cases H
             ·rw [if_neg c38] at H;have c38b0 : decide (1 < (t760.size : Int)) = false := decide_eq_false c38;have c38b1 : decide (1 < t760.size) = false := decide_eq_false (by omega);clear c38;(first | rw [c38b0] | (simp only [i64_w,i32_w];rw [c38b0]) | rw [c38b1] | (simp only [i64_w,i32_w];rw [c38b1]) | skip);have H' := am H;clear H;go_wp2;(repeat (go_quiet (fail);try go_wp2));go_meet
              case rel => exact ⟨_,(t760),pS,H',⟨by have := HJ2.out;have := HJ11.out;have := HJ19.out;first | omega | exact Nat.le_refl _⟩,⟨pB⟩⟩
            case rest =>
             clear HC37;(try clear c1);(try clear c2);(try clear p2);(try clear c3);(try clear c4);(try clear c6);(try clear c6b0);(try clear c6b1);(try clear p6);(try clear c7);(try clear c7b0);(try clear c7b1);(try clear c8);(try clear c8b0);(try clear c8b1);(try clear c8b2);(try clear c9);(try clear c9b0);(try clear c9b1);(try clear c10);(try clear c10b0);(try clear c10b1);(try clear c10b2);(try clear c14);(try clear c14b0);(try clear c14b1);(try clear c15);(try clear c16);(try clear c16b0);(try clear c16b1);(try clear c16b2);(try clear c18);(try clear c18b0);(try clear c18b1);(try clear c18b2);(try clear c19);(try clear c19b0);(try clear c19b1);(try clear c19b2);(try clear c21);(try clear c21b0);(try clear c21b1);(try clear c22);(try clear c24);(try clear c24b0);(try clear c24b1);(try clear c24b2);(try clear c25);(try clear c25b0);(try clear c25b1);(try clear c26);(try clear c26b0);(try clear c26b1);(try clear c26b2);(try clear c28);(try clear c28b0);(try clear c28b1);(try clear c29);(try clear c29b0);(try clear c29b1);(try clear c31);(try clear c31b0);(try clear c31b1);(try clear c31b2);(try clear c32);(try clear c32b0);(try clear c32b1);(try clear c32b2);(try clear c33);(try clear c33b0);(try clear c34);(try clear c34b0);(try clear c36);(try clear c36b0);(try clear c36b1);(try clear c36b2);(try clear c38);(try clear c38b0);(try clear c38b1);(try clear c39);(try clear c39b0);(try clear c39b1);(try clear c40);(try clear c40b0);(try clear c40b1);(try clear c42);(try clear c42b0);(try clear c42b1);(try clear c42b2);(try clear c43);(try clear c43b0);(try clear c45);(try clear c45b0);(try clear c45b1);(try clear c45b2);(try clear p2);(try clear p6);obtain ⟨kq,x4_36,rfl,HA,HJ36,HB⟩ := hcut
             cases kq with
             | zero => exact absurd HA.out (by simp [r5_Print.j3])
             | succ kj36 =>
              have H := HA.out;clear HA;simp only [r5_Print.j3] at H;by_cases c46 : t761 < 0
              ·rw [if_pos c46] at H;have c46b0 : decide (t761 < 0) = true := decide_eq_true c46;clear c46;by_cases c47 : x3_2.size + x4_36.size ≤ 9223372036854775807
               ·rw [if_pos c47] at H;have c47b0 := eq_true c47;have c47b1 : decide (x3_2.size + x4_36.size ≤ 9223372036854775807) = true := decide_eq_true c47;(try have c47b2 : (9223372036854775807 < x3_2.size + x4_36.size) = False := eq_false (Nat.not_lt.2 c47));by_cases c48 : (x3_2 ++ x4_36).size + 2 ≤ 9223372036854775807
                ·rw [if_pos c48] at H;have c48b0 := eq_true c48;have c48b1 : decide ((x3_2 ++ x4_36).size + 2 ≤ 9223372036854775807) = true := decide_eq_true c48;(try have c48b2 : (9223372036854775807 < (x3_2 ++ x4_36).size + 2) = False := eq_false (Nat.not_lt.2 c48));(try have c48b3 : (9223372036854775807 < x3_2.size + x4_36.size + 2) = False := by have h_ := c48b2;simp only [ByteArray.size_append] at h_;exact h_);obtain ⟨t764,A49,H⟩ := oB H;(try dsimp only at H);by_cases c50 : ((x3_2 ++ x4_36) ++ (⟨#[101,45]⟩ : ByteArray)).size + t764.size ≤ 9223372036854775807
                 ·rw [if_pos c50] at H;have c50b0 := eq_true c50;have c50b1 : decide (((x3_2 ++ x4_36) ++ (⟨#[101,45]⟩ : ByteArray)).size + t764.size ≤ 9223372036854775807) = true := decide_eq_true c50;(try have c50b2 : (9223372036854775807 < ((x3_2 ++ x4_36) ++ (⟨#[101,45]⟩ : ByteArray)).size + t764.size) = False := eq_false (Nat.not_lt.2 c50));(try have c50b3 : (9223372036854775807 < x3_2.size + x4_36.size + 2 + t764.size) = False := by have h_ := c50b2;simp only [ByteArray.size_append] at h_;exact h_);obtain rfl := Option.some.inj H;(go_wp2_with (first | (go_at_call 21;(with_reducible refine (r5_number.calls kj36 (wrap64 (-t761)) t764 _ A49.out).mono ?_);rintro e w51 ⟨rfl,hb⟩;replace HB := bS hb;(try clear hb))));repeat (go_quiet (first | (go_at_call 21;(with_reducible refine (r5_number.calls kj36 (wrap64 (-t761)) t764 _ A49.out).mono ?_);rintro e w51 ⟨rfl,hb⟩;replace HB := bS hb;(try clear hb)));try go_wp2_with (first | (go_at_call 21;(with_reducible refine (r5_number.calls kj36 (wrap64 (-t761)) t764 _ A49.out).mono ?_);rintro e w51 ⟨rfl,hb⟩;replace HB := bS hb;(try clear hb))))
                  go_ret
                  exact ⟨pE,pB⟩
                 ·rw [if_neg c50] at H
                  cases H
                ·rw [if_neg c48] at H
                 cases H
               ·rw [if_neg c47] at H
                cases H
              ·rw [if_neg c46] at H;have c46b0 : decide (t761 < 0) = false := decide_eq_false c46;clear c46;by_cases c52 : x3_2.size + x4_36.size ≤ 9223372036854775807
               ·rw [if_pos c52] at H;have c52b0 := eq_true c52;have c52b1 : decide (x3_2.size + x4_36.size ≤ 9223372036854775807) = true := decide_eq_true c52;(try have c52b2 : (9223372036854775807 < x3_2.size + x4_36.size) = False := eq_false (Nat.not_lt.2 c52));by_cases c53 : (x3_2 ++ x4_36).size + 2 ≤ 9223372036854775807
                ·rw [if_pos c53] at H;have c53b0 := eq_true c53;have c53b1 : decide ((x3_2 ++ x4_36).size + 2 ≤ 9223372036854775807) = true := decide_eq_true c53;(try have c53b2 : (9223372036854775807 < (x3_2 ++ x4_36).size + 2) = False := eq_false (Nat.not_lt.2 c53));(try have c53b3 : (9223372036854775807 < x3_2.size + x4_36.size + 2) = False := by have h_ := c53b2;simp only [ByteArray.size_append] at h_;exact h_);obtain ⟨t765,A54,H⟩ := oB H;(try dsimp only at H);by_cases c55 : ((x3_2 ++ x4_36) ++ (⟨#[101,43]⟩ : ByteArray)).size + t765.size ≤ 9223372036854775807
                 ·rw [if_pos c55] at H;have c55b0 := eq_true c55;have c55b1 : decide (((x3_2 ++ x4_36) ++ (⟨#[101,43]⟩ : ByteArray)).size + t765.size ≤ 9223372036854775807) = true := decide_eq_true c55;(try have c55b2 : (9223372036854775807 < ((x3_2 ++ x4_36) ++ (⟨#[101,43]⟩ : ByteArray)).size + t765.size) = False := eq_false (Nat.not_lt.2 c55));(try have c55b3 : (9223372036854775807 < x3_2.size + x4_36.size + 2 + t765.size) = False := by have h_ := c55b2;simp only [ByteArray.size_append] at h_;exact h_);obtain rfl := Option.some.inj H;(go_wp2_with (first | (go_at_call 21;(with_reducible refine (r5_number.calls kj36 t761 t765 _ A54.out).mono ?_);rintro e w56 ⟨rfl,hb⟩;replace HB := bS hb;(try clear hb))));repeat (go_quiet (first | (go_at_call 21;(with_reducible refine (r5_number.calls kj36 t761 t765 _ A54.out).mono ?_);rintro e w56 ⟨rfl,hb⟩;replace HB := bS hb;(try clear hb)));try go_wp2_with (first | (go_at_call 21;(with_reducible refine (r5_number.calls kj36 t761 t765 _ A54.out).mono ?_);rintro e w56 ⟨rfl,hb⟩;replace HB := bS hb;(try clear hb))))
                  go_ret
                  exact ⟨pE,pB⟩
                 ·rw [if_neg c55] at H
                  cases H
                ·rw [if_neg c53] at H
                 cases H
               ·rw [if_neg c52] at H
                cases H
def w5_DecPrints.f (k : Nat) (a0 : Int) : Option (Bool) := (dec_Print.f k a0).bind fun t766 => ((r5_Print.f k a0).bind fun t767 => (if t766.toList = t767.toList then ((w5_lives.f k).bind fun t768 => (some t768)) else (none)))
set_option maxHeartbeats 8000000 in
set_option maxRecDepth 100000 in
theorem w5_DecPrints.calls (k : Nat) (a0 : Int) (r : Bool) (w : World) (hG : zYd w) (h : w5_DecPrints.f k a0 = some r) :
  Calls Tryz.prog 4 #[.int .u64 a0] w fun e w' => e = .returned (.bool r) ∧ Below w.heap.size w w' := by
 have HG := am hG;clear hG;have HB := am (Below.refl w.heap.size w);have H : ((dec_Print.f k a0).bind fun t766 => ((r5_Print.f k a0).bind fun t767 => (if t766.toList = t767.toList then ((w5_lives.f k).bind fun t768 => (some t768)) else (none)))) = some r := h;clear h;obtain ⟨t766,A2,H⟩ := oB H;(try dsimp only at H);obtain ⟨t767,A3,H⟩ := oB H;(try dsimp only at H);by_cases c4 : t766.toList = t767.toList
 ·rw [if_pos c4] at H;have c4b0 : (t766.toList == t767.toList) = true := beq_iff_eq.mpr c4;have c4b1 : (t766.toList != t767.toList) = false := bne_eq_false_iff_eq.mpr c4;clear c4;obtain ⟨t768,A5,H⟩ := oB H;(try dsimp only at H);obtain rfl := Option.some.inj H;go_enter Tryz.func4,Tryz.ntmps4;go_wp2_with (first | ((with_reducible refine zQb (f := 8) rfl ?_);refine zQi (some 4) rfl rfl Tryz.func8 (by kernel_rfl) rfl #[.int .u64 a0] rfl pM ?_;(with_reducible refine (dec_Print.calls k a0 t766 _ ?side1 A2.out).mono ?_);(case side1 => exact pG);rintro e w6 ⟨rfl,hb⟩;refine ⟨_,rfl,?_⟩;replace HB := bS hb;(try clear hb)) | ((with_reducible refine zQb (f := 9) rfl ?_);refine zQi (some 6) rfl rfl Tryz.func9 (by kernel_rfl) rfl #[.int .u64 a0] rfl pM ?_;(with_reducible refine (r5_Print.calls k a0 t767 _ A3.out).mono ?_);rintro e w7 ⟨rfl,hb⟩;refine ⟨_,rfl,?_⟩;replace HB := bS hb;(try clear hb)) | (go_at_call 7;(with_reducible refine (w5_lives.calls k  t768 _ ?side1 A5.out).mono ?_);(case side1 => exact pG);rintro e w8 ⟨rfl,hb⟩;replace HB := bS hb))
  go_ret
  exact ⟨pE,pB⟩
 ·rw [if_neg c4] at H
  cases H
def w5_DecPrints.Pure : Prop := ∀ (a0 : Int),(Lit.int .u64 a0).wf = true → ∃ k,w5_DecPrints.f k a0 = some true
end Go.Proofs.YtflcanpajgpghaaGreatDoor.Pr
end
section
namespace Go.Proofs.YtflcanpajgpghaaGreatDoor.Pure
open Go.RowKit Go.Proofs.YtflcanpajgpghaaGreatDoor.Pr Go.Proofs.YtflcanpajgpghaaGreatDoorW.PrintWords Go.Proofs.YtflcanpajgpghaaGreatDoorW.PrintLast Go.Proofs.YtflcanpajgpghaaGreatDoorW.PrintMore
def toB (x : Nat) : List Int := if x = 0 then [] else ((x % 4294967296 : Nat) : Int) :: toB (x / 4294967296)
termination_by x
decreasing_by omega
theorem zXT : toB 0 = [] := by rw [toB];rfl
theorem zZv {x : Nat} (h : x ≠ 0) : toB x = ((x % 4294967296 : Nat) : Int) :: toB (x / 4294967296) := by rw [toB,if_neg h]
def valB : List Int → Nat
 | [] => 0
 | a :: l => a.toNat + 4294967296 * valB l
def Parts (l : List Int) : Prop := ∀ x ∈ l,0 ≤ x ∧ x < 4294967296
theorem zYk (x : Nat) : valB (toB x) = x := by
 induction x using Nat.strongRecOn with
 | _ x ih =>
  by_cases h : x = 0
  ·subst h;rw [zXT];rfl
  ·rw [zZv h,valB,ih (x / 4294967296) (by omega),Int.toNat_natCast];omega
theorem zXK (x : Nat) : Parts (toB x) := by
 induction x using Nat.strongRecOn with
 | _ x ih =>
  by_cases h : x = 0
  ·subst h;rw [zXT];intro y hy;cases hy
  ·rw [zZv h];intro y hy;rcases List.mem_cons.1 hy with rfl | hy
   ·omega
   ·exact ih (x / 4294967296) (by omega) y hy
theorem val_append (l m : List Int) : valB (l ++ m) = valB l + 4294967296 ^ l.length * valB m := by
 induction l with
 | nil => simp [valB]
 | cons a l ih =>
  rw [List.cons_append,valB,valB,ih,List.length_cons,Nat.pow_succ,Nat.mul_add,← Nat.mul_assoc,Nat.mul_comm 4294967296 (4294967296 ^ l.length)];omega
theorem zJR {l : List Int} (h : Parts l) : valB l < 4294967296 ^ l.length := by
 induction l with
 | nil => simp [valB]
 | cons a l ih =>
  have h1 := ih (fun x hx => h x (List.mem_cons_of_mem _ hx));have h2 := h a (List.mem_cons_self ..);rw [valB,List.length_cons,Nat.pow_succ];omega
theorem zHc {l : List Int} (h : Parts l) (hl : l = [] ∨ l.getLast? ≠ some 0) : toB (valB l) = l := by
 induction l with
 | nil => exact zXT
 | cons a l ih =>
  have h2 := h a (List.mem_cons_self ..);(have hp : Parts l := fun x hx => h x (List.mem_cons_of_mem _ hx));have hlast : (a :: l).getLast? ≠ some 0 := hl.resolve_left (by simp)
  have hne : valB (a :: l) ≠ 0 := by
   intro h0;rw [valB] at h0;by_cases hn : l = []
   ·subst hn;simp at hlast;omega
   ·have := ih hp (.inr (by
     cases l with
     | nil => exact absurd rfl hn
     | cons b l => rwa [List.getLast?_cons_cons] at hlast))
    (have h3 : valB l = 0 := by omega);rw [h3,zXT] at this;exact hn this.symm
  rw [zZv hne];(have e1 : (valB (a :: l) % 4294967296 : Nat) = a.toNat := by rw [valB];omega);have e2 : valB (a :: l) / 4294967296 = valB l := by rw [valB];omega
  rw [e1,e2,ih hp (by
   by_cases hn : l = []
   ·exact .inl hn
   ·refine .inr ?_
    cases l with
    | nil => exact absurd rfl hn
    | cons b l => rwa [List.getLast?_cons_cons] at hlast)]
  congr 1
  omega
theorem wrapB (n : Int) (h0 : -9223372036854775808 ≤ n) (h1 : n ≤ 9223372036854775807) : wrap64 n = n := by unfold wrap64;omega
theorem zYh {l m : List Int} (h : Parts l) (g : Parts m) : Parts (l ++ m) := fun x hx => (List.mem_append.1 hx).elim (h x) (g x)
theorem zJC (m : List Int) (a : Int) : rd (m ++ [a]) (m.length : Int) = a := by
 unfold rd;rw [Int.toNat_natCast,List.getD_eq_getElem?_getD,List.getElem?_append_right (Nat.le_refl _),Nat.sub_self]
 rfl
theorem zZV : ∀ (n : Nat) (l : List Int),l.length = n → Parts l → n ≤ 4611686018427387904 → Ev (fun k => b_trim.l0 k l) (toB (valB l))
 | 0,l,hn,hp,hb => by
  obtain rfl := List.eq_nil_of_length_eq_zero hn;refine Ev.step (f := fun k => some []) (fun k => ?_) (by rw [show valB [] = 0 from rfl,zXT];exact Ev.now _);rw [b_trim.l0,if_neg (by simp)]
 | n + 1,l,hn,hp,hb => by
  obtain ⟨m,a,rfl⟩ : ∃ m a,l = m ++ [a] := ⟨l.dropLast,l.getLast (by intro h;rw [h] at hn;cases hn),(List.dropLast_concat_getLast _).symm⟩;(have hm : m.length = n := by rw [List.length_append,List.length_singleton] at hn;omega);(have hlen : (((m ++ [a]).length : Nat) : Int) = (m.length : Int) + 1 := by rw [List.length_append,List.length_singleton];omega);(have hw : wrap64 (((m ++ [a]).length : Int) - 1) = (m.length : Int) := by rw [hlen,wrapB _ (by omega) (by omega)];omega);(have hpm : Parts m := fun x hx => hp x (List.mem_append_left _ hx));have ha := hp a (List.mem_append_right _ (List.mem_singleton.2 rfl));by_cases h0 : a = 0
  ·have ih := zZV n m hm hpm (by omega);(have hv : valB (m ++ [a]) = valB m := by rw [val_append,h0];simp [valB]);rw [hv];refine Ev.step (fun k => ?_) ih;rw [b_trim.l0,if_pos (by omega),hw,if_pos (by omega),if_pos (by omega),zJC,if_pos h0,if_pos (by omega),Int.toNat_natCast,List.take_left']
   rfl
  ·refine Ev.step (f := fun k => some (m ++ [a])) (fun k => ?_) ?_
   ·rw [b_trim.l0,if_pos (by omega),hw,if_pos (by omega),if_pos (by omega),zJC,if_neg h0]
   ·rw [zHc hp (.inr (by rw [List.getLast?_append];simp;exact h0))]
    exact Ev.now _
theorem zVn {x n c : Nat} (hx : x < 4294967296) (hn : n < 4294967296) (hc : c < 4294967296) : c + x * n < 18446744073709551616 ∧ (c + x * n) / 4294967296 < 4294967296 := by
 have h : x * n ≤ 4294967295 * 4294967295 := Nat.mul_le_mul (by omega) (by omega);have h2 : (4294967295 : Nat) * 4294967295 = 18446744065119617025 := rfl;omega
theorem u64_in (n : Nat) (h : n < 18446744073709551616) : IntKind.u64.wrap (n : Int) = (n : Int) := by
 unfold IntKind.wrap;simp [IntKind.bits,IntKind.signed];omega
theorem zJS {l : List Int} {i : Nat} (h : i < l.length) : valB (l.drop i) = (l.getD i 0).toNat + 4294967296 * valB (l.drop (i + 1)) := by
 rw [List.drop_eq_getElem_cons h,valB,List.getD_eq_getElem?_getD,List.getElem?_eq_getElem h]
 rfl
theorem zKJ (l : List Int) (n : Nat) (hn : n < 4294967296) (hl : l.length ≤ 1048576) (hp : Parts l) : ∀ (d i : Nat) (acc : List Int) (c : Nat),i + d = l.length → acc.length = i → Parts acc → c < 4294967296 →
  Ev (fun k => b_times.l0 k (n : Int) acc (c : Int) l (l.length : Int) (i : Int)) (toB (valB acc + 4294967296 ^ i * (valB (l.drop i) * n + c)))
 | 0,i,acc,c,hi,ha,hpa,hc => by
  have hd : l.drop i = [] := List.drop_eq_nil_of_le (by omega)
  have hv : valB acc + 4294967296 ^ i * (valB (l.drop i) * n + c) = valB (acc ++ [(c : Int) % 4294967296]) := by
   rw [hd,val_append,ha];simp only [valB,Nat.zero_mul,Nat.zero_add,Nat.mul_zero,Nat.add_zero]
   congr 2
   omega
  rw [hv];have ht := zZV (acc ++ [(c : Int) % 4294967296]).length (acc ++ [(c : Int) % 4294967296]) rfl (zYh hpa (fun x hx => by rw [List.mem_singleton.1 hx];omega)) (by rw [List.length_append,List.length_singleton];omega);have hb : Ev (fun k => (b_trim.f k (acc ++ [(c : Int) % 4294967296])).bind fun t => some t) (toB (valB (acc ++ [(c : Int) % 4294967296]))) := Ev.bind ht (Ev.now _);refine Ev.step (fun k => ?_) hb;rw [b_times.l0,if_neg (by omega),if_pos (by omega)]
 | d + 1,i,acc,c,hi,ha,hpa,hc => by
  have hlt : i < l.length := by omega
  obtain ⟨x,hx,hx2⟩ : ∃ x : Nat,l.getD i 0 = (x : Int) ∧ x < 4294967296 := by
   have := hp (l.getD i 0) (by rw [List.getD_eq_getElem?_getD,List.getElem?_eq_getElem hlt];exact List.getElem_mem hlt);exact ⟨(l.getD i 0).toNat,by omega,by omega⟩
  (have hrd : rd l (i : Int) = (x : Int) := by unfold rd;rw [Int.toNat_natCast];exact hx);obtain ⟨hs1,hs2⟩ := zVn hx2 hn hc;have hxn : x * n < 18446744073709551616 := by omega
  have he : IntKind.u64.wrap ((c : Int) + (IntKind.u64.wrap ((IntKind.u64.wrap (rd l (i : Int))) * (IntKind.u64.wrap ((n : Nat) : Int))))) = ((c + x * n : Nat) : Int) := by
   rw [hrd,u64_in x (by omega),u64_in n (by omega),show ((x : Int) * (n : Int)) = ((x * n : Nat) : Int) by push_cast;rfl,u64_in _ hxn,show ((c : Int) + ((x * n : Nat) : Int)) = ((c + x * n : Nat) : Int) by push_cast;rfl,u64_in _ hs1]
  have ih := zKJ l n hn hl hp d (i + 1) (acc ++ [(((c + x * n) % 4294967296 : Nat) : Int)]) ((c + x * n) / 4294967296) (by omega) (by rw [List.length_append,List.length_singleton];omega) (zYh hpa (fun y hy => by rw [List.mem_singleton.1 hy];omega)) hs2
  have hv : valB acc + 4294967296 ^ i * (valB (l.drop i) * n + c) = valB (acc ++ [(((c + x * n) % 4294967296 : Nat) : Int)]) + 4294967296 ^ (i + 1) * (valB (l.drop (i + 1)) * n + (c + x * n) / 4294967296) := by
   rw [val_append,ha,zJS hlt,hx,Int.toNat_natCast,Nat.pow_succ,Nat.mul_assoc,Nat.add_assoc,← Nat.mul_add];simp only [valB,Nat.mul_zero,Nat.add_zero,Int.toNat_natCast]
   congr 2
   rw [Nat.add_mul,Nat.mul_assoc,Nat.mul_add];generalize valB (l.drop (i + 1)) * n = v;have := Nat.mod_add_div (c + x * n) 4294967296;omega
  rw [hv];refine Ev.step (fun k => ?_) ih;rw [b_times.l0,if_pos (by omega),if_pos (by omega),if_pos (by omega),if_pos (by omega),he,wrapB _ (by omega) (by omega)];simp only [Int.natCast_emod,Int.natCast_ediv,Int.natCast_add,Int.natCast_one]
  rfl
theorem zZN (x n m : Nat) (hn : n < 4294967296) (hm : m < 4294967296) (hl : (toB x).length ≤ 1048576) : Ev (fun k => b_times.f k (toB x) (n : Int) (m : Int)) (toB (x * n + m)) := by
 have h := zKJ (toB x) n hn hl (zXK x) (toB x).length 0 [] m (by omega) rfl (fun y hy => by cases hy) hm;rw [List.drop_zero,zYk,Nat.pow_zero,Nat.one_mul] at h;(have e : valB [] + (x * n + m) = x * n + m := by simp [valB]);rw [e] at h;refine Ev.congr (fun k => ?_) h;unfold b_times.f;rw [wrapB _ (by omega) (by omega),if_pos (by omega),if_pos (by omega),u64_in m (by omega)]
 rfl
theorem zKl : ∀ (L x : Nat),x < 4294967296 ^ L → (toB x).length ≤ L
 | 0,x,h => by
  have : x = 0 := by rw [Nat.pow_zero] at h;omega
  rw [this,zXT];exact Nat.le_refl _
 | L + 1,x,h => by
  by_cases h0 : x = 0
  ·rw [h0,zXT];exact Nat.zero_le _
  ·rw [zZv h0,List.length_cons]
   have : x / 4294967296 < 4294967296 ^ L := by
    rw [Nat.pow_succ] at h;exact Nat.div_lt_of_lt_mul (by rw [Nat.mul_comm];exact h)
   have := zKl L _ this;omega
theorem tens1 (n : Nat) (hn : n ≤ 1048576) (L : Nat) (hL : L ≤ 1048576) : ∀ (d j x : Nat),j + d = n → x * 10 ^ d < 4294967296 ^ L → Ev (fun k => b_tens.l1 k (toB x) (n : Int) (j : Int)) (toB (x * 10 ^ d))
 | 0,j,x,hj,hx => by
  rw [Nat.pow_zero,Nat.mul_one];refine Ev.step (f := fun k => some (toB x)) (fun k => ?_) (Ev.now _);rw [b_tens.l1,if_neg (by omega)]
 | d + 1,j,x,hj,hx => by
  (have h1 : x * 10 * 10 ^ d = x * 10 ^ (d + 1) := by rw [Nat.pow_succ,Nat.mul_assoc,Nat.mul_comm 10]);have hxl : x < 4294967296 ^ L := Nat.lt_of_le_of_lt (Nat.le_mul_of_pos_right _ (Nat.pow_pos (by decide))) hx;have ih := tens1 n hn L hL d (j + 1) (x * 10) (by omega) (by rw [h1];exact hx);rw [h1] at ih;have ht := zZN x 10 0 (by decide) (by decide) (Nat.le_trans (zKl L x hxl) hL);rw [Nat.add_zero] at ht;have hb : Ev (fun k => (b_times.f k (toB x) 10 0).bind fun t => b_tens.l1 k t (n : Int) ((j + 1 : Nat) : Int)) (toB (x * 10 ^ (d + 1))) := Ev.bind ht ih;refine Ev.step (fun k => ?_) hb;rw [b_tens.l1,if_pos (by omega),wrapB _ (by omega) (by omega)]
  rfl
theorem tens0 (L : Nat) (hL : L ≤ 1048576) : ∀ (n x : Nat),n ≤ 1048576 → x * 10 ^ n < 4294967296 ^ L → Ev (fun k => b_tens.l0 k (toB x) (n : Int)) (toB (x * 10 ^ n)) := by
 intro n
 induction n using Nat.strongRecOn with
 | _ n ih =>
  intro x hn hx;by_cases h9 : 9 ≤ n
  ·obtain ⟨m,rfl⟩ := Nat.exists_eq_add_of_le h9;(have h1 : x * 1000000000 * 10 ^ m = x * 10 ^ (9 + m) := by rw [Nat.pow_add,← Nat.mul_assoc]);have hxl : x < 4294967296 ^ L := Nat.lt_of_le_of_lt (Nat.le_mul_of_pos_right _ (Nat.pow_pos (by decide))) hx;have g := ih m (by omega) (x * 1000000000) (by omega) (by rw [h1];exact hx);rw [h1] at g;have ht := zZN x 1000000000 0 (by decide) (by decide) (Nat.le_trans (zKl L x hxl) hL);rw [Nat.add_zero] at ht;have hb : Ev (fun k => (b_times.f k (toB x) 1000000000 0).bind fun t => b_tens.l0 k t (m : Int)) (toB (x * 10 ^ (9 + m))) := Ev.bind ht g;refine Ev.step (fun k => ?_) hb;rw [b_tens.l0,if_pos (by omega),wrapB _ (by omega) (by omega),show (((9 + m : Nat) : Int) - 9) = (m : Int) by omega]
  ·have g := tens1 n hn L hL n 0 x (by omega) hx;refine Ev.step (fun k => ?_) g;rw [b_tens.l0,if_neg (by omega)]
   rfl
theorem bitLen_spec : ∀ (x : Nat),x ≠ 0 → x < 2 ^ 64 → 1 ≤ Lib.bitLen x ∧ 2 ^ (Lib.bitLen x - 1) ≤ x ∧ x < 2 ^ (Lib.bitLen x) := by
 intro x
 induction x using Nat.strongRecOn with
 | _ x ih =>
  intro h0 h;rw [Lib.bitLen_half x h0 h];by_cases h1 : x / 2 = 0
  ·obtain rfl : x = 1 := by omega
   decide
  ·obtain ⟨c,a,b⟩ := ih (x / 2) (by omega) h1 (by omega);obtain ⟨n,hn⟩ : ∃ n,Lib.bitLen (x / 2) = n + 1 := ⟨_,(Nat.sub_add_cancel c).symm⟩;rw [hn] at a b ⊢;rw [Nat.add_sub_cancel] at a;refine ⟨by omega,?_,?_⟩
   ·rw [show 1 + (n + 1) - 1 = n + 1 by omega,Nat.pow_succ];omega
   ·rw [show 1 + (n + 1) = (n + 1) + 1 by omega,Nat.pow_succ 2 (n + 1)];omega
def LenIs (x L : Nat) : Prop := (x = 0 → L = 0) ∧ (x ≠ 0 → 1 ≤ L ∧ 2 ^ (L - 1) ≤ x ∧ x < 2 ^ L)
theorem zGm {x L : Nat} (h : LenIs x L) : x < 2 ^ L := by
 by_cases h0 : x = 0
 ·rw [h0];exact Nat.two_pow_pos _
 ·exact (h.2 h0).2.2
theorem zZr (n : Nat) : (4294967296 : Nat) ^ n = 2 ^ (32 * n) := by rw [Nat.pow_mul]
theorem zGB (n : Nat) : 0 < (4294967296 : Nat) ^ n := Nat.pow_pos (by decide)
theorem zVV {x : Nat} (h : x ≠ 0) : ∃ (m : List Int) (a : Nat),toB x = m ++ [(a : Int)] ∧ 0 < a ∧ a < 4294967296 := by
 induction x using Nat.strongRecOn with
 | _ x ih =>
  rw [zZv h];by_cases h1 : x / 4294967296 = 0
  ·rw [h1,zXT];exact ⟨[],x % 4294967296,rfl,by omega,by omega⟩
  ·obtain ⟨m,a,e,h2,h3⟩ := ih (x / 4294967296) (by omega) h1;exact ⟨_ :: m,a,by rw [e];rfl,h2,h3⟩
theorem zWD {x : Nat} (h : x ≠ 0) : ∃ (m : List Int) (a : Nat),toB x = m ++ [(a : Int)] ∧ 0 < a ∧ a < 4294967296 ∧ x = valB m + 4294967296 ^ m.length * a ∧ valB m < 4294967296 ^ m.length := by
 obtain ⟨m,a,e,h1,h2⟩ := zVV h;refine ⟨m,a,e,h1,h2,?_,?_⟩
 ·have := zYk x;rw [e,val_append] at this;rw [← this];simp [valB]
 ·have hp := zXK x;rw [e] at hp;exact zJR fun y hy => hp y (List.mem_append_left _ hy)
theorem zGP (x : Nat) (hl : (toB x).length ≤ 1048576) : ∃ L : Nat,b_len.f (toB x) = some (L : Int) ∧ LenIs x L ∧ L ≤ 32 * (toB x).length := by
 by_cases h0 : x = 0
 ·subst h0;refine ⟨0,?_,⟨fun _ => rfl,fun h => absurd rfl h⟩,by omega⟩;rw [zXT]
  rfl
 ·obtain ⟨m,a,e,h1,h2,hx,hm⟩ := zWD h0;obtain ⟨b1,b2,b3⟩ := bitLen_spec a (by omega) (by omega);have b4 := Lib.bitLen_le a 32 (by omega) (by omega);refine ⟨32 * m.length + Lib.bitLen a,?_,⟨fun h => absurd h h0,fun _ => ⟨by omega,?_,?_⟩⟩,?_⟩
  ·(have hlen : (((toB x).length : Nat) : Int) = (m.length : Int) + 1 := by rw [e,List.length_append,List.length_singleton];omega);(have hml : m.length < 1048576 := by rw [e,List.length_append,List.length_singleton] at hl;omega);unfold b_len.f;rw [hlen,if_neg (by omega),wrapB _ (by omega) (by omega),if_pos (by omega),if_pos (by omega),show ((m.length : Int) + 1 - 1) = (m.length : Int) by omega,e,zJC];unfold bits_Len32.f;rw [if_pos (by omega),Option.bind_some,Int.toNat_natCast,wrapB (32 * _) (by omega) (by omega),wrapB _ (by omega) (by omega)]
   congr 1
  ·rw [show 32 * m.length + Lib.bitLen a - 1 = 32 * m.length + (Lib.bitLen a - 1) by omega,Nat.pow_add,← zZr];have := Nat.mul_le_mul_left (4294967296 ^ m.length) b2;omega
  ·rw [Nat.pow_add,← zZr];have := Nat.mul_le_mul_left (4294967296 ^ m.length) b3;rw [Nat.mul_succ] at this;omega
  ·rw [e,List.length_append,List.length_singleton];omega
theorem zKI {x y : Nat} (h : (toB x).length < (toB y).length) : x < y := by
 have h1 : x < 4294967296 ^ (toB x).length := by
  have := zJR (zXK x)
  rwa [zYk] at this
 (have hy : y ≠ 0 := by intro h0;rw [h0,zXT] at h;exact absurd h (Nat.not_lt_zero _));obtain ⟨m,a,e,h2,h3,h4,h5⟩ := zWD hy;rw [e,List.length_append,List.length_singleton] at h;have h6 : 4294967296 ^ (toB x).length ≤ 4294967296 ^ m.length := Nat.pow_le_pow_right (by decide) (by omega);have h7 : 4294967296 ^ m.length * 1 ≤ 4294967296 ^ m.length * a := Nat.mul_le_mul_left _ h2;omega
theorem zBh {x y : Nat} (h : x ≤ y) : (toB x).length ≤ (toB y).length := by
 apply Nat.le_of_not_lt;intro hlt;have := zKI hlt;omega
theorem zJQ {l : List Int} {i : Nat} (h : i < l.length) : valB (l.take (i + 1)) = valB (l.take i) + 4294967296 ^ i * (l.getD i 0).toNat := by
 rw [List.take_succ_eq_append_getElem h,val_append,List.length_take,Nat.min_eq_left (Nat.le_of_lt h),List.getD_eq_getElem?_getD,List.getElem?_eq_getElem h];simp [valB]
theorem zZS {l : List Int} (hp : Parts l) {i : Nat} (h : i ≤ l.length) : valB (l.take i) < 4294967296 ^ i := by
 have := zJR (l := l.take i) (fun x hx => hp x (List.mem_of_mem_take hx))
 rwa [List.length_take,Nat.min_eq_left h] at this
theorem getD_in {l : List Int} (hp : Parts l) {i : Nat} (h : i < l.length) : ∃ a : Nat,l.getD i 0 = (a : Int) ∧ a < 4294967296 := by
 have := hp (l.getD i 0) (by rw [List.getD_eq_getElem?_getD,List.getElem?_eq_getElem h];exact List.getElem_mem h);exact ⟨(l.getD i 0).toNat,by omega,by omega⟩
theorem zYg (l : List Int) (i : Nat) : rd l (i : Int) = l.getD i 0 := by unfold rd;rw [Int.toNat_natCast]
theorem zBn (l m : List Int) (hp : Parts l) (hm : Parts m) (hlen : l.length = m.length) (hb : l.length ≤ 1048576) : ∀ i,i ≤ l.length →
  ∃ c : Int,Ev (fun k => b_cmp.l0 k l m ((i : Int) - 1)) c ∧ (c < 0 ↔ valB (l.take i) < valB (m.take i)) ∧ (c = 0 ↔ valB (l.take i) = valB (m.take i))
 | 0,_ => by
  refine ⟨0,Ev.step (f := fun _ => some 0) (fun k => ?_) (Ev.now _),by simp [valB],by simp [valB]⟩;rw [b_cmp.l0,if_neg (by omega)]
 | i + 1,hi => by
  obtain ⟨a,ha,ha2⟩ := getD_in hp (i := i) (by omega);obtain ⟨b,hb',hb2⟩ := getD_in hm (i := i) (by omega);(have ha3 : (l.getD i 0).toNat = a := by rw [ha];rfl);(have hb3 : (m.getD i 0).toNat = b := by rw [hb'];rfl);have e1 := zJQ (l := l) (i := i) (by omega);have e2 := zJQ (l := m) (i := i) (by omega);have t1 := zZS hp (i := i) (by omega);have t2 := zZS hm (i := i) (by omega);rw [ha3] at e1;rw [hb3] at e2;(have hk : ((i + 1 : Nat) : Int) - 1 = (i : Int) := by omega);rw [hk,e1,e2];obtain ⟨P,hP⟩ : ∃ P,P = 4294967296 ^ i := ⟨_,rfl⟩;rw [← hP] at t1 t2 ⊢;by_cases hab : a = b
  ·obtain ⟨c,hc,c1,c2⟩ := zBn l m hp hm hlen hb i (by omega);refine ⟨c,Ev.step (fun k => ?_) hc,?_,?_⟩
   ·rw [b_cmp.l0,if_pos (by omega),if_pos (by omega),if_pos (by omega),if_pos (by omega),zYg,zYg,if_pos (by rw [ha,hb',hab]),wrapB _ (by omega) (by omega)]
   ·rw [c1,hab];omega
   ·rw [c2,hab];omega
  ·by_cases hlt : a < b
   ·refine ⟨-1,Ev.step (f := fun _ => some (-1)) (fun k => ?_) (Ev.now _),?_,?_⟩
    ·rw [b_cmp.l0,if_pos (by omega),if_pos (by omega),if_pos (by omega),if_pos (by omega),zYg,zYg,if_neg (by rw [ha,hb'];omega),if_pos (by rw [ha,hb'];omega)]
    ·have : P * (a + 1) ≤ P * b := Nat.mul_le_mul_left _ hlt;rw [Nat.mul_succ] at this;omega
    ·have : P * (a + 1) ≤ P * b := Nat.mul_le_mul_left _ hlt;rw [Nat.mul_succ] at this;omega
   ·(have hlt' : b < a := by omega);refine ⟨1,Ev.step (f := fun _ => some 1) (fun k => ?_) (Ev.now _),?_,?_⟩
    ·rw [b_cmp.l0,if_pos (by omega),if_pos (by omega),if_pos (by omega),if_pos (by omega),zYg,zYg,if_neg (by rw [ha,hb'];omega),if_neg (by rw [ha,hb'];omega)]
    ·have : P * (b + 1) ≤ P * a := Nat.mul_le_mul_left _ hlt';rw [Nat.mul_succ] at this;omega
    ·have : P * (b + 1) ≤ P * a := Nat.mul_le_mul_left _ hlt';rw [Nat.mul_succ] at this;omega
theorem zJk (x y : Nat) (hx : (toB x).length ≤ 1048576) (hy : (toB y).length ≤ 1048576) : ∃ c : Int,Ev (fun k => b_cmp.f k (toB x) (toB y)) c ∧ (c < 0 ↔ x < y) ∧ (c = 0 ↔ x = y) := by
 by_cases h : (toB x).length = (toB y).length
 ·obtain ⟨c,hc,c1,c2⟩ := zBn (toB x) (toB y) (zXK x) (zXK y) h hx (toB x).length (Nat.le_refl _);rw [List.take_length,h,List.take_length,zYk,zYk] at c1 c2;refine ⟨c,Ev.congr (fun k => ?_) hc,c1,c2⟩;unfold b_cmp.f;rw [if_pos (by rw [h]),wrapB _ (by omega) (by omega)]
 ·refine ⟨((toB x).length : Int) - ((toB y).length : Int),Ev.congr (f := fun _ => some (((toB x).length : Int) - ((toB y).length : Int))) (fun k => ?_) (Ev.now _),?_,?_⟩
  ·unfold b_cmp.f;rw [if_neg (by omega),wrapB _ (by omega) (by omega)]
  ·constructor
   ·intro hc;exact zKI (by omega)
   ·intro hxy;have := zBh (Nat.le_of_lt hxy);omega
  ·constructor
   ·intro hc;omega
   ·intro hxy;rw [hxy] at h;exact absurd rfl h
theorem zWE {x : Nat} (h : x ≠ 0) : ∀ q,toB (x * 4294967296 ^ q) = List.replicate q 0 ++ toB x
 | 0 => by rw [Nat.pow_zero,Nat.mul_one];rfl
 | q + 1 => by
  have h1 : x * 4294967296 ^ q ≠ 0 := Nat.mul_ne_zero h (Nat.ne_of_gt (zGB q));(have h2 : x * 4294967296 ^ (q + 1) = x * 4294967296 ^ q * 4294967296 := by rw [Nat.pow_succ,Nat.mul_assoc]);rw [h2,zZv (Nat.mul_ne_zero h1 (by decide)),Nat.mul_mod_left,Nat.mul_div_cancel _ (by decide),zWE h q]
  rfl
theorem zHj (n : Nat) (h : n < 32) : shl .u32 1 (n : Int) = ((2 ^ n : Nat) : Int) := by
 unfold shl;rw [Int.toNat_natCast,show IntKind.u32.bits = 32 from rfl,Nat.min_eq_left (Nat.le_of_lt h),Int.one_mul];have : (2 : Nat) ^ n < 2 ^ 32 := Nat.pow_lt_pow_right (by decide) h;(have e : ((2 : Int) ^ n) = ((2 ^ n : Nat) : Int) := by push_cast;rfl);rw [e];generalize (2 : Nat) ^ n = z at this;unfold IntKind.wrap;simp [IntKind.bits,IntKind.signed];omega
theorem up_ev (x n : Nat) (h : x ≠ 0 ∨ n < 32) (hl : (toB x).length + n / 32 ≤ 1048000) : Ev (fun k => b_up.f k (toB x) (n : Int)) (toB (x * 2 ^ n)) := by
 (have hq : Int.tdiv (n : Int) 32 = ((n / 32 : Nat) : Int) := by rw [Int.tdiv_eq_ediv_of_nonneg (by omega)];omega);(have hr : Int.tmod (n : Int) 32 = ((n % 32 : Nat) : Int) := by rw [Int.tmod_eq_emod_of_nonneg (by omega)];omega);have hlt : 2 ^ (n % 32) < 4294967296 := Nat.lt_of_lt_of_le (Nat.pow_lt_pow_right (by decide) (Nat.mod_lt n (by decide : 0 < 32))) (Nat.le_refl _);have ht := zZN x (2 ^ (n % 32)) 0 hlt (by decide) (by omega);rw [Nat.add_zero] at ht
 have hx2 : x * 2 ^ n = x * 2 ^ (n % 32) * 4294967296 ^ (n / 32) := by
  rw [zZr,Nat.mul_assoc,← Nat.pow_add]
  congr 2
  omega
 have hlen2 : (toB (x * 2 ^ (n % 32))).length ≤ (toB x).length + 1 := by
  refine zKl _ _ ?_
  have h1 : x < 4294967296 ^ (toB x).length := by
   have := zJR (zXK x)
   rwa [zYk] at this
  rw [Nat.pow_succ];exact Nat.mul_lt_mul_of_lt_of_lt h1 hlt
 have hres : toB (x * 2 ^ n) = List.replicate (n / 32) 0 ++ toB (x * 2 ^ (n % 32)) := by
  rw [hx2];by_cases h0 : x = 0
  ·subst h0;(have : n / 32 = 0 := by omega);rw [this,Nat.zero_mul,Nat.zero_mul,zXT]
   rfl
  ·exact zWE (Nat.mul_ne_zero h0 (Nat.ne_of_gt (Nat.two_pow_pos _))) _
 rw [hres];have hb : Ev (fun k => (b_times.f k (toB x) ((2 ^ (n % 32) : Nat) : Int) 0).bind fun t => some (List.replicate (n / 32) 0 ++ t)) (List.replicate (n / 32) 0 ++ toB (x * 2 ^ (n % 32))) := Ev.bind ht (Ev.now _);refine Ev.congr (fun k => ?_) hb;unfold b_up.f
 rw [hq,hr,wrapB ((n / 32 : Nat) : Int) (by omega) (by omega),wrapB (((n / 32 : Nat) : Int) + ((toB x).length : Int)) (by omega) (by omega),wrapB _ (by omega) (by omega),if_pos (by omega),if_pos (by omega),if_pos (by omega),Option.bind_some,Int.toNat_natCast,if_pos (by rw [List.length_replicate];omega),Option.bind_some,if_pos (by rw [List.length_append,List.length_replicate];omega),if_pos (by omega),zHj _ (Nat.mod_lt _ (by decide)),
  List.drop_left' (List.length_replicate ..),List.take_left' (List.length_replicate ..)]
 cases hk : b_times.f k (toB x) ((2 ^ (n % 32) : Nat) : Int) 0 with
 | none => rfl
 | some t =>
  rw [Option.bind_some,Option.bind_some]
  have hk2 : t = toB (x * 2 ^ (n % 32)) := by
   obtain ⟨K,hK⟩ := ht;have h1 := hK (max K k) (Nat.le_max_left ..)
   have h2 : b_times.f (max K k) (toB x) ((2 ^ (n % 32) : Nat) : Int) 0 = some t := by
    have : ∀ d,b_times.f (k + d) (toB x) ((2 ^ (n % 32) : Nat) : Int) 0 = some t := by
     intro d
     induction d with
     | zero => exact hk
     | succ d ih => exact b_times.mono _ _ _ _ _ ih
    have h3 := this (max K k - k)
    rwa [show k + (max K k - k) = max K k by omega] at h3
   have h3 : b_times.f (max K k) (toB x) ((2 ^ (n % 32) : Nat) : Int) 0 = some (toB (x * 2 ^ (n % 32))) := h1;exact Option.some.inj (h2.symm.trans h3)
  unfold slices_Concat.f;rw [if_pos (by simp [List.flatten];rw [hk2];omega)];simp [List.flatten]
theorem u64_neg (z : Int) (h : -9223372036854775808 ≤ z) (h1 : z < 0) : IntKind.u64.wrap z = z + 18446744073709551616 := by
 unfold IntKind.wrap;simp [IntKind.bits,IntKind.signed];omega
theorem zZh (l : List Int) (i : Nat) (hp : Parts l) : ∃ b : Nat,b < 4294967296 ∧ valB (l.drop i) = b + 4294967296 * valB (l.drop (i + 1)) ∧ (i < l.length → rd l (i : Int) = (b : Int)) ∧ (l.length ≤ i → b = 0) := by
 by_cases h : i < l.length
 ·obtain ⟨b,hb,hb2⟩ := getD_in hp h;refine ⟨b,hb2,?_,fun _ => by rw [zYg,hb],fun h2 => by omega⟩;rw [zJS h,hb,Int.toNat_natCast]
 ·rw [List.drop_eq_nil_of_le (by omega),List.drop_eq_nil_of_le (by omega)];exact ⟨0,by decide,rfl,fun h2 => absurd h2 h,fun _ => rfl⟩
theorem zKU (l m : List Int) (hp : Parts l) (hm : Parts m) (hl : l.length ≤ 1048576) (hml : m.length ≤ 1048576) : ∀ (d i : Nat) (acc : List Int) (c : Nat),i + d = l.length → acc.length = i → Parts acc → c ≤ 1 → valB (m.drop i) + c ≤ valB (l.drop i) →
  Ev (fun k => b_minus.l0 k m acc (c : Int) l (l.length : Int) (i : Int)) (toB (valB acc + 4294967296 ^ i * (valB (l.drop i) - valB (m.drop i) - c)))
 | 0,i,acc,c,hi,ha,hpa,hc,hle => by
  have hd : l.drop i = [] := List.drop_eq_nil_of_le (by omega);rw [hd] at hle ⊢;(have e : valB ([] : List Int) - valB (m.drop i) - c = 0 := by simp [valB]);rw [e,Nat.mul_zero,Nat.add_zero];have ht := zZV acc.length acc rfl hpa (by omega);have hb : Ev (fun k => (b_trim.f k acc).bind fun t => some t) (toB (valB acc)) := Ev.bind ht (Ev.now _);refine Ev.step (fun k => ?_) hb;rw [b_minus.l0,if_neg (by omega)]
 | d + 1,i,acc,c,hi,ha,hpa,hc,hle => by
  obtain ⟨a,ha2,hL,hra,_⟩ := zZh l i hp;obtain ⟨b,hb2,hM,hrb,hb0⟩ := zZh m i hm;have hra := hra (by omega);obtain ⟨L,hLe⟩ : ∃ L,L = valB (l.drop (i + 1)) := ⟨_,rfl⟩;obtain ⟨M,hMe⟩ : ∃ M,M = valB (m.drop (i + 1)) := ⟨_,rfl⟩;rw [hL,hM,← hLe,← hMe] at hle ⊢
  obtain ⟨e,c',he,hc',hwe,hwc⟩ : ∃ e c' : Nat,(e + b + c = a + 4294967296 * c' ∧ e < 4294967296) ∧ c' ≤ 1 ∧ (IntKind.u64.wrap ((a : Int) - ((c : Int) + (b : Int)))) % 4294967296 = (e : Int) ∧ (IntKind.u64.wrap ((a : Int) - ((c : Int) + (b : Int)))) / 9223372036854775808 = (c' : Int) := by
   by_cases h : b + c ≤ a
   ·refine ⟨a - b - c,0,⟨by omega,by omega⟩,by omega,?_,?_⟩
    ·rw [show ((a : Int) - ((c : Int) + (b : Int))) = ((a - b - c : Nat) : Int) by omega,u64_in _ (by omega)];omega
    ·rw [show ((a : Int) - ((c : Int) + (b : Int))) = ((a - b - c : Nat) : Int) by omega,u64_in _ (by omega)];omega
   ·refine ⟨a + 4294967296 - b - c,1,⟨by omega,by omega⟩,by omega,?_,?_⟩
    ·rw [u64_neg _ (by omega) (by omega)];omega
    ·rw [u64_neg _ (by omega) (by omega)];omega
  (have hle2 : M + c' ≤ L := by omega);have ih := zKU l m hp hm hl hml d (i + 1) (acc ++ [(e : Int)]) c' (by omega) (by rw [List.length_append,List.length_singleton];omega) (zYh hpa (fun y hy => by rw [List.mem_singleton.1 hy];omega)) hc' (by rw [← hLe,← hMe];exact hle2);rw [← hLe,← hMe] at ih
  have hv : valB acc + 4294967296 ^ i * (a + 4294967296 * L - (b + 4294967296 * M) - c) = valB (acc ++ [(e : Int)]) + 4294967296 ^ (i + 1) * (L - M - c') := by
   rw [val_append,ha,Nat.pow_succ,Nat.mul_assoc,Nat.add_assoc,← Nat.mul_add];simp only [valB,Nat.mul_zero,Nat.add_zero,Int.toNat_natCast]
   congr 2
   omega
  rw [hv];refine Ev.step (fun k => ?_) ih;by_cases hi2 : i < m.length
  ·have hrb := hrb hi2;rw [b_minus.l0,if_pos (by omega),if_pos (by omega),if_pos (by omega),if_pos (by omega),if_pos (by omega),hra,hrb,u64_in a (by omega),u64_in b (by omega),show ((c : Int) + (b : Int)) = ((c + b : Nat) : Int) by push_cast;rfl,u64_in (c + b) (by omega),show ((c + b : Nat) : Int) = ((c : Int) + (b : Int)) by push_cast;rfl,hwe,hwc,wrapB _ (by omega) (by omega)]
   rfl
  ·have hb0 := hb0 (by omega);subst hb0;rw [show ((c : Int) + ((0 : Nat) : Int)) = (c : Int) by omega] at hwe hwc;rw [b_minus.l0,if_pos (by omega),if_pos (by omega),if_pos (by omega),if_neg (by omega),if_pos (by omega),hra,u64_in a (by omega),hwe,hwc,wrapB _ (by omega) (by omega)]
   rfl
theorem zGk (x y : Nat) (h : y ≤ x) (hl : (toB x).length ≤ 1048576) : Ev (fun k => b_minus.f k (toB x) (toB y)) (toB (x - y)) := by
 have hy := zBh h;have g := zKU (toB x) (toB y) (zXK x) (zXK y) hl (by omega) (toB x).length 0 [] 0 (by omega) rfl (fun y hy => by cases hy) (by omega) (by rw [List.drop_zero,List.drop_zero,zYk,zYk];omega);rw [List.drop_zero,List.drop_zero,zYk,zYk,Nat.pow_zero,Nat.one_mul] at g;(have e : valB [] + (x - y - 0) = x - y := by simp [valB]);rw [e] at g;refine Ev.congr (fun k => ?_) g;unfold b_minus.f;rw [if_pos (by omega),if_pos (by omega)]
 rfl
theorem zJa (l m : List Int) (hp : Parts l) (hm : Parts m) (hl : l.length ≤ 1048576) (hml : m.length ≤ l.length) : ∀ (d i : Nat) (acc : List Int) (c : Nat),i + d = l.length → acc.length = i → Parts acc → c ≤ 1 →
  Ev (fun k => b_plus.l0 k m acc (c : Int) l (l.length : Int) (i : Int)) (toB (valB acc + 4294967296 ^ i * (valB (l.drop i) + valB (m.drop i) + c)))
 | 0,i,acc,c,hi,ha,hpa,hc => by
  have hd : l.drop i = [] := List.drop_eq_nil_of_le (by omega);have hd2 : m.drop i = [] := List.drop_eq_nil_of_le (by omega)
  have hv : valB acc + 4294967296 ^ i * (valB (l.drop i) + valB (m.drop i) + c) = valB (acc ++ [(c : Int) % 4294967296]) := by
   rw [hd,hd2,val_append,ha];simp only [valB,Nat.zero_add,Nat.mul_zero,Nat.add_zero]
   congr 2
   omega
  rw [hv];have ht := zZV (acc ++ [(c : Int) % 4294967296]).length (acc ++ [(c : Int) % 4294967296]) rfl (zYh hpa (fun x hx => by rw [List.mem_singleton.1 hx];omega)) (by rw [List.length_append,List.length_singleton];omega);have hb : Ev (fun k => (b_trim.f k (acc ++ [(c : Int) % 4294967296])).bind fun t => some t) (toB (valB (acc ++ [(c : Int) % 4294967296]))) := Ev.bind ht (Ev.now _);refine Ev.step (fun k => ?_) hb;rw [b_plus.l0,if_neg (by omega),if_pos (by omega)]
 | d + 1,i,acc,c,hi,ha,hpa,hc => by
  obtain ⟨a,ha2,hL,hra,_⟩ := zZh l i hp;obtain ⟨b,hb2,hM,hrb,hb0⟩ := zZh m i hm;have hra := hra (by omega);have ih := zJa l m hp hm hl hml d (i + 1) (acc ++ [(((c + a + b) % 4294967296 : Nat) : Int)]) ((c + a + b) / 4294967296) (by omega) (by rw [List.length_append,List.length_singleton];omega) (zYh hpa (fun y hy => by rw [List.mem_singleton.1 hy];omega)) (by omega)
  have hv : valB acc + 4294967296 ^ i * (valB (l.drop i) + valB (m.drop i) + c) = valB (acc ++ [(((c + a + b) % 4294967296 : Nat) : Int)]) + 4294967296 ^ (i + 1) * (valB (l.drop (i + 1)) + valB (m.drop (i + 1)) + (c + a + b) / 4294967296) := by
   rw [val_append,ha,hL,hM,Nat.pow_succ,Nat.mul_assoc,Nat.add_assoc (valB acc),← Nat.mul_add];simp only [valB,Nat.mul_zero,Nat.add_zero,Int.toNat_natCast]
   congr 2
   omega
  rw [hv];refine Ev.step (fun k => ?_) ih;by_cases hi2 : i < m.length
  ·have hrb := hrb hi2;rw [b_plus.l0,if_pos (by omega),if_pos (by omega),if_pos (by omega),if_pos (by omega),if_pos (by omega),hra,hrb,u64_in a (by omega),u64_in b (by omega),show ((c : Int) + (a : Int)) = ((c + a : Nat) : Int) by push_cast;rfl,u64_in (c + a) (by omega),show (((c + a : Nat) : Int) + (b : Int)) = ((c + a + b : Nat) : Int) by push_cast;rfl,u64_in (c + a + b) (by omega),wrapB _ (by omega) (by omega)];simp only [Int.natCast_emod,Int.natCast_ediv,Int.natCast_add,Int.natCast_one]
   rfl
  ·have hb0 := hb0 (by omega);subst hb0;rw [Nat.add_zero];rw [b_plus.l0,if_pos (by omega),if_pos (by omega),if_pos (by omega),if_neg (by omega),if_pos (by omega),hra,u64_in a (by omega),show ((c : Int) + (a : Int)) = ((c + a : Nat) : Int) by push_cast;rfl,u64_in (c + a) (by omega),wrapB _ (by omega) (by omega)];simp only [Int.natCast_emod,Int.natCast_ediv,Int.natCast_add,Int.natCast_one]
   rfl
theorem zGM (x y : Nat) (h : (toB y).length ≤ (toB x).length) (hl : (toB x).length ≤ 1048576) : Ev (fun k => b_plus.fg k (toB x) (toB y)) (toB (x + y)) := by
 have g := zJa (toB x) (toB y) (zXK x) (zXK y) hl h (toB x).length 0 [] 0 (by omega) rfl (fun y hy => by cases hy) (by omega);rw [List.drop_zero,List.drop_zero,zYk,zYk,Nat.pow_zero,Nat.one_mul] at g;(have e : valB [] + (x + y + 0) = x + y := by simp [valB]);rw [e] at g;refine Ev.congr (fun k => ?_) g;unfold b_plus.fg;rw [wrapB _ (by omega) (by omega),if_pos (by omega),if_pos (by omega)]
 rfl
theorem zHn (x y : Nat) (hx : (toB x).length ≤ 1048576) (hy : (toB y).length ≤ 1048576) : Ev (fun k => b_plus.f k (toB x) (toB y)) (toB (x + y)) := by
 unfold b_plus.f;by_cases h : ((toB x).length : Int) < ((toB y).length : Int)
 ·simp only [if_pos h];rw [Nat.add_comm];exact zGM y x (by omega) hy
 ·simp only [if_neg h];exact zGM x y (by omega) hx
theorem zYU (a b : Nat) (ha : a < 18446744073709551616) (hb : b < 18446744073709551616) : Go.bits .or .u64 (a : Int) (b : Int) = ((a ||| b : Nat) : Int) := by
 (have hlt : a ||| b < 2 ^ 64 := Nat.or_lt_two_pow ha hb);unfold Go.bits;rw [show IntKind.u64.bits = 64 from rfl];simp only [BitVec.toNat_or];(have e2 : (BitVec.ofInt 64 (a : Int)).toNat = a := by rw [BitVec.ofInt_natCast,BitVec.toNat_ofNat,Nat.mod_eq_of_lt ha]);(have e3 : (BitVec.ofInt 64 (b : Int)).toNat = b := by rw [BitVec.ofInt_natCast,BitVec.toNat_ofNat,Nat.mod_eq_of_lt hb]);rw [e2,e3];exact u64_in _ hlt
theorem zYZ (a b : Nat) (ha : a < 18446744073709551616) (hb : b < 18446744073709551616) : Go.bits .and .u64 (a : Int) (b : Int) = ((a &&& b : Nat) : Int) := by
 have hlt : a &&& b < 2 ^ 64 := Nat.and_lt_two_pow _ hb;unfold Go.bits;rw [show IntKind.u64.bits = 64 from rfl];simp only [BitVec.toNat_and];(have e2 : (BitVec.ofInt 64 (a : Int)).toNat = a := by rw [BitVec.ofInt_natCast,BitVec.toNat_ofNat,Nat.mod_eq_of_lt ha]);(have e3 : (BitVec.ofInt 64 (b : Int)).toNat = b := by rw [BitVec.ofInt_natCast,BitVec.toNat_ofNat,Nat.mod_eq_of_lt hb]);rw [e2,e3];exact u64_in _ hlt
theorem zJw (x n : Nat) (h : n ≤ 64) : shl .u64 (x : Int) (n : Int) = ((x * 2 ^ n % 2 ^ 64 : Nat) : Int) := by
 unfold shl;rw [Int.toNat_natCast,show IntKind.u64.bits = 64 from rfl,Nat.min_eq_left h];(have e : ((x : Int) * (2 : Int) ^ n) = ((x * 2 ^ n : Nat) : Int) := by push_cast;rfl);rw [e];generalize x * 2 ^ n = z;unfold IntKind.wrap;simp [IntKind.bits,IntKind.signed]
theorem zHi (x n : Nat) (h : n ≤ 64) : shr .u64 (x : Int) (n : Int) = ((x / 2 ^ n : Nat) : Int) := by
 unfold shr;rw [Int.toNat_natCast,show IntKind.u64.bits = 64 from rfl,Nat.min_eq_left h]
 push_cast
 rfl
theorem or_bit (t i : Nat) : (2 ^ (i + 1) * t ||| 2 ^ i) = 2 ^ (i + 1) * t + 2 ^ i := by
 rw [Nat.two_pow_add_eq_or_of_lt (by rw [Nat.pow_succ];have := Nat.two_pow_pos i;omega)]
end Go.Proofs.YtflcanpajgpghaaGreatDoor.Pure
end
section
namespace Go.Proofs.YtflcanpajgpghaaGreatDoor.Flo
open Go Ieee
def mid (w : Nat) : Nat := units w + units (w + 1)
def kE : Nat := 1075
def K : Nat := 2 ^ kE
def Above (A B w : Nat) : Prop := w = 0 ∨ mid (w - 1) * B < A * K ∨ (mid (w - 1) * B = A * K ∧ w % 2 = 0)
def Under (A B w : Nat) : Prop := A * K < mid w * B ∨ (A * K = mid w * B ∧ w % 2 = 0)
def zXH (A B w : Nat) : Prop := Above A B w ∧ Under A B w
theorem zYV (w : Nat) : units w < units (w + 1) := zXR (Nat.lt_succ_self w)
theorem zWm {v w : Nat} (h : v < w) : mid v < mid w := by
 unfold mid;have h1 := zXR h;have h2 : units (v + 1) < units (w + 1) := zXR (by omega);omega
theorem zKT {A B A' B' v w : Nat} (hB : 0 < B) (hB' : 0 < B') (h : A * B' ≤ A' * B) (hv : zXH A B v) (hw : zXH A' B' w) : v ≤ w := by
 apply Nat.le_of_not_lt;intro hlt
 have hm : mid w ≤ mid (v - 1) := by
  rcases Nat.lt_or_eq_of_le (show w ≤ v - 1 by omega) with h1 | h1
  ·exact Nat.le_of_lt (zWm h1)
  ·rw [h1];exact Nat.le_refl _
 have ha : mid (v - 1) * B ≤ A * K ∧ (mid (v - 1) * B = A * K → v % 2 = 0) := by
  rcases hv.1 with h1 | h1 | h1
  ·omega
  ·exact ⟨Nat.le_of_lt h1,fun e => by omega⟩
  ·exact ⟨Nat.le_of_eq h1.1,fun _ => h1.2⟩
 have hu : A' * K ≤ mid w * B' ∧ (A' * K = mid w * B' → w % 2 = 0) := by
  rcases hw.2 with h1 | h1
  ·exact ⟨Nat.le_of_lt h1,fun e => by omega⟩
  ·exact ⟨Nat.le_of_eq h1.1,fun _ => h1.2⟩
 have c1 : mid (v - 1) * B * B' ≤ A * K * B' := Nat.mul_le_mul_right _ ha.1
 have c2 : A * K * B' ≤ A' * K * B := by
  have := Nat.mul_le_mul_right K h;rw [Nat.mul_right_comm A K B',Nat.mul_right_comm A' K B];exact this
 have c3 : A' * K * B ≤ mid w * B' * B := Nat.mul_le_mul_right _ hu.1;have c4 : mid w * B' * B ≤ mid (v - 1) * B' * B := Nat.mul_le_mul_right _ (Nat.mul_le_mul_right _ hm)
 have c5 : mid (v - 1) * B' * B = mid (v - 1) * B * B' := Nat.mul_right_comm _ _ _
 (have e1 : mid (v - 1) * B * B' = A * K * B' := by omega);(have e2 : A' * K * B = mid w * B' * B := by omega);(have e3 : mid w * B' * B = mid (v - 1) * B' * B := by omega);have f1 : mid (v - 1) * B = A * K := Nat.eq_of_mul_eq_mul_right hB' e1;have f2 : A' * K = mid w * B' := Nat.eq_of_mul_eq_mul_right hB e2;have f3 : mid w = mid (v - 1) := Nat.eq_of_mul_eq_mul_right hB' (Nat.eq_of_mul_eq_mul_right hB e3);have g1 := ha.2 f1;have g2 := hu.2 f2
 have : w = v - 1 := by
  rcases Nat.lt_trichotomy w (v - 1) with k | k | k
  ·have := zWm k;omega
  ·exact k
  ·have := zWm k;omega
 omega
theorem zJF {A B A' B' v w : Nat} (hB : 0 < B) (hB' : 0 < B') (h : A * B' = A' * B) (hv : zXH A B v) (hw : zXH A' B' w) : v = w :=
 Nat.le_antisymm (zKT hB hB' (Nat.le_of_eq h) hv hw) (zKT hB' hB (Nat.le_of_eq h.symm) hw hv)
theorem zGe (c j : Nat) : (c + 0) * 2 ^ (j + 1) = (c * 2) * 2 ^ j := by rw [Nat.add_zero,Nat.pow_succ,Nat.mul_comm (2 ^ j) 2,Nat.mul_assoc]
theorem zZT {r : Nat} (h : r < 4503599627370496) : units r = r := by unfold units;rw [if_pos h]
theorem zBt {r : Nat} (h : ¬ r < 4503599627370496) : units r = (4503599627370496 + r % 4503599627370496) * 2 ^ (r / 4503599627370496 - 1) := by unfold units;rw [if_neg h]
theorem zXz (j q : Nat) (h1 : q ≤ 9007199254740992) (h2 : j = 0 ∨ 4503599627370496 ≤ q) : units (j * 4503599627370496 + q) = q * 2 ^ j := by
 by_cases hq : q < 4503599627370496
 ·(obtain rfl : j = 0 := by omega);rw [zZT (by omega)];omega
 ·rw [zBt (by omega)];by_cases he : q = 9007199254740992
  ·(have e1 : (j * 4503599627370496 + q) % 4503599627370496 = 0 := by omega);(have e2 : (j * 4503599627370496 + q) / 4503599627370496 - 1 = j + 1 := by omega);(have e3 : 4503599627370496 * 2 = q := by omega);rw [e1,e2,zGe,e3]
  ·(have e1 : 4503599627370496 + (j * 4503599627370496 + q) % 4503599627370496 = q := by omega);(have e2 : (j * 4503599627370496 + q) / 4503599627370496 - 1 = j := by omega);rw [e1,e2]
theorem zBD {A B j q : Nat} (hB : 0 < B) (h1 : q < 9007199254740992) (h2 : j = 0 ∨ 4503599627370496 ≤ q) (lo : 2 * q * (2 ^ j * B) ≤ A * K) (hi : A * K < 2 * (q + 1) * (2 ^ j * B)) :
  zXH A B (j * 4503599627370496 + if (2 * q + 1) * (2 ^ j * B) < A * K ∨ ((2 * q + 1) * (2 ^ j * B) = A * K ∧ q % 2 = 1) then q + 1 else q) := by
 have u0 := zXz j q (by omega) h2;have u1 := zXz j (q + 1) (by omega) (by omega)
 have hmid : mid (j * 4503599627370496 + q) * B = (2 * q + 1) * (2 ^ j * B) := by
  unfold mid;rw [Nat.add_assoc,u0,u1,← Nat.add_mul,← Nat.mul_assoc]
  congr 2
  omega
 have hK : ∃ a,a = A * K := ⟨_,rfl⟩;obtain ⟨a,ha⟩ := hK;obtain ⟨c,hc⟩ : ∃ c,c = 2 ^ j * B := ⟨_,rfl⟩;rw [← ha,← hc] at lo hi;rw [← hc] at hmid;rw [← ha,← hc];(have q0 : units (j * 4503599627370496 + q) * B = q * c := by rw [u0,hc,Nat.mul_assoc]);(have q1 : units (j * 4503599627370496 + (q + 1)) * B = (q + 1) * c := by rw [u1,hc,Nat.mul_assoc]);by_cases hup : (2 * q + 1) * c < a ∨ ((2 * q + 1) * c = a ∧ q % 2 = 1)
 ·rw [if_pos hup];(have hw : j * 4503599627370496 + (q + 1) - 1 = j * 4503599627370496 + q := by omega);refine ⟨.inr ?_,.inl ?_⟩
  ·rw [hw,hmid,← ha];rcases hup with g | g
   ·exact .inl g
   ·exact .inr ⟨g.1,by omega⟩
  ·rw [← ha]
   refine Nat.lt_of_lt_of_le hi ?_
   unfold mid;have h3 := zYV (j * 4503599627370496 + (q + 1));have h4 : units (j * 4503599627370496 + (q + 1)) * B ≤ units (j * 4503599627370496 + (q + 1) + 1) * B := Nat.mul_le_mul_right _ (Nat.le_of_lt h3);rw [Nat.add_mul,q1];rw [q1] at h4;(have h5 : 2 * (q + 1) * c = (q + 1) * c + (q + 1) * c := by rw [Nat.mul_assoc,Nat.two_mul]);omega
 ·rw [if_neg hup];(have g1 : a ≤ (2 * q + 1) * c := Nat.le_of_not_lt fun g => hup (.inl g));refine ⟨?_,?_⟩
  ·by_cases h0 : j * 4503599627370496 + q = 0
   ·exact .inl h0
   ·refine .inr (.inl ?_);rw [← ha];refine Nat.lt_of_lt_of_le ?_ lo;unfold mid;have h3 := zYV (j * 4503599627370496 + q - 1);rw [show j * 4503599627370496 + q - 1 + 1 = j * 4503599627370496 + q by omega] at h3 ⊢;have h4 : units (j * 4503599627370496 + q - 1) * B < units (j * 4503599627370496 + q) * B := Nat.mul_lt_mul_of_pos_right h3 hB;rw [Nat.add_mul,q0];rw [q0] at h4;(have h5 : 2 * q * c = q * c + q * c := by rw [Nat.mul_assoc,Nat.two_mul]);omega
  ·unfold Under;rw [← ha,hmid];rcases Nat.lt_or_eq_of_le g1 with g | g
   ·exact .inl g
   ·refine .inr ⟨g,?_⟩;(have : ¬ q % 2 = 1 := fun k => hup (.inr ⟨g.symm,k⟩));omega
theorem K_exp : ∃ E : Nat,E = 1075 ∧ K = 2 ^ E := ⟨kE,rfl,rfl⟩
theorem K_pos : 0 < K := by
 obtain ⟨E,_,h⟩ := K_exp;rw [h];exact Nat.two_pow_pos E
theorem zJJ {A B P M Q R n j : Nat} (hB : 0 < B) (hP : 0 < P) (hM : 0 < M) (hn : 1 ≤ n) (hK : K * (M * 2 ^ n) = 2 ^ (j + 1) * P)
  (hA : A * P = Q * (B * M) + R) (hR : R < B * M) (h1 : Q / 2 ^ n < 9007199254740992) (h2 : j = 0 ∨ 4503599627370496 ≤ Q / 2 ^ n) :
  zXH A B (j * 4503599627370496 + if 2 ^ (n - 1) < Q % 2 ^ n ∨ (Q % 2 ^ n = 2 ^ (n - 1) ∧ (0 < R ∨ Q / 2 ^ n % 2 = 1)) then Q / 2 ^ n + 1 else Q / 2 ^ n) := by
 obtain ⟨m,rfl⟩ : ∃ m,n = m + 1 := ⟨n - 1,by omega⟩;rw [Nat.add_sub_cancel];have hT : 0 < 2 ^ m := Nat.two_pow_pos m;(have hS : (2 : Nat) ^ (m + 1) = 2 * 2 ^ m := by rw [Nat.pow_succ,Nat.mul_comm]);rw [hS] at hK h1 h2 ⊢;obtain ⟨T,hTT⟩ : ∃ T,T = 2 ^ m := ⟨_,rfl⟩;rw [← hTT] at hK h1 h2 hT ⊢;obtain ⟨C,hC⟩ : ∃ C,C = B * M := ⟨_,rfl⟩;(have hC0 : 0 < C := by rw [hC];exact Nat.mul_pos hB hM);rw [← hC] at hA hR;have hQ := Nat.div_add_mod Q (2 * T);have hr : Q % (2 * T) < 2 * T := Nat.mod_lt _ (by omega);obtain ⟨q,hq⟩ : ∃ q,q = Q / (2 * T) := ⟨_,rfl⟩;obtain ⟨r,hrr⟩ : ∃ r,r = Q % (2 * T) := ⟨_,rfl⟩;rw [← hq] at h1 h2;rw [← hq,← hrr] at hQ ⊢;rw [← hrr] at hr
 have key : ∀ c,c * (2 ^ j * B) * P = c * T * C * K := by
  intro c
  have e1 : 2 * (c * (2 ^ j * B) * P) = 2 * (c * T * C * K) := by
   have g1 : 2 * (c * (2 ^ j * B) * P) = c * B * (2 ^ (j + 1) * P) := by
    rw [Nat.pow_succ];simp only [Nat.mul_assoc,Nat.mul_comm,Nat.mul_left_comm]
   rw [g1,← hK,hC];simp only [Nat.mul_assoc,Nat.mul_comm,Nat.mul_left_comm]
  omega
 have keyA : A * K * P = (Q * C + R) * K := by rw [← hA];simp only [Nat.mul_assoc,Nat.mul_comm,Nat.mul_left_comm]
 have hlt : ∀ c,c * (2 ^ j * B) < A * K ↔ c * T * C < Q * C + R := by
  intro c;rw [← Nat.mul_lt_mul_right hP,key,keyA,Nat.mul_lt_mul_right K_pos]
 have hgt : ∀ c,A * K < c * (2 ^ j * B) ↔ Q * C + R < c * T * C := by
  intro c;rw [← Nat.mul_lt_mul_right hP,key,keyA,Nat.mul_lt_mul_right K_pos]
 have heq : ∀ c,c * (2 ^ j * B) = A * K ↔ c * T * C = Q * C + R := by
  intro c;have a := hlt c;have b := hgt c;omega
 have hle : ∀ c,c * (2 ^ j * B) ≤ A * K ↔ c * T * C ≤ Q * C + R := by
  intro c;have b := hgt c;omega
 have cQ : ∀ x,x ≤ Q → x * C ≤ Q * C + R := fun x h => Nat.le_trans (Nat.mul_le_mul_right C h) (Nat.le_add_right _ _)
 have cG : ∀ x,Q < x → Q * C + R < x * C := fun x h => by
  have := Nat.mul_le_mul_right C (show Q + 1 ≤ x from h);rw [Nat.add_mul,Nat.one_mul] at this;omega
 (have e2 : 2 * q * T + r = Q := by rw [Nat.mul_assoc,Nat.mul_comm q T,← Nat.mul_assoc];exact hQ);(have e3 : 2 * (q + 1) * T = 2 * q * T + 2 * T := by rw [Nat.mul_add,Nat.add_mul]);(have e4 : (2 * q + 1) * T = 2 * q * T + T := by rw [Nat.add_mul,Nat.one_mul]);(have g2 : 2 * q * T ≤ Q := by clear hlt hgt heq hle key keyA hA hK;omega);(have g3 : Q < 2 * (q + 1) * T := by clear hlt hgt heq hle key keyA hA hK;omega);have hmain := zBD (A := A) (B := B) (j := j) (q := q) hB h1 h2 ((hle _).2 (cQ _ g2)) ((hgt _).2 (cG _ g3))
 have hcond : ((2 * q + 1) * (2 ^ j * B) < A * K ∨ ((2 * q + 1) * (2 ^ j * B) = A * K ∧ q % 2 = 1)) ↔ (T < r ∨ (r = T ∧ (0 < R ∨ q % 2 = 1))) := by
  rw [hlt,heq];rcases Nat.lt_trichotomy T r with h | h | h
  ·have := Nat.mul_le_mul_right C (show (2 * q + 1) * T + 1 ≤ Q by omega);rw [Nat.add_mul _ 1,Nat.one_mul] at this;exact ⟨fun _ => .inl h,fun _ => .inl (by omega)⟩
  ·(have : (2 * q + 1) * T = Q := by omega);rw [this];omega
  ·have := cG ((2 * q + 1) * T) (by omega);omega
 simp only [hcond] at hmain;exact hmain
theorem zWz {A B : Nat} (h : A * K < B) : zXH A B 0 := by
 refine ⟨.inl rfl,.inl ?_⟩;(have : mid 0 = 1 := by rfl);rw [this,Nat.one_mul];exact h
def INF : Nat := 9218868437227405312
def upN (D : Nat) (e : Int) : Nat := D * 10 ^ e.toNat
def loN (e : Int) : Nat := 10 ^ (-e).toNat
def zBq (D : Nat) (e : Int) (w : Nat) : Prop :=
 if D = 0 ∨ e < -1000 then w = 0 else if 400 < e then w = INF else ∃ v,zXH (upN D e) (loN e) v ∧ w = min v INF
theorem zYT (e : Int) : 0 < loN e := Nat.pow_pos (by decide)
end Go.Proofs.YtflcanpajgpghaaGreatDoor.Flo
end
section
namespace Go.Proofs.YtflcanpajgpghaaGreatDoor.Pure
open Go.RowKit Go.Proofs.YtflcanpajgpghaaGreatDoor.Pr Go.Proofs.YtflcanpajgpghaaGreatDoorW.PrintWords Go.Proofs.YtflcanpajgpghaaGreatDoorW.PrintLast Go.Proofs.YtflcanpajgpghaaGreatDoorW.PrintMore Go.Proofs.YtflcanpajgpghaaGreatDoor.Flo
def rnd (q n : Nat) : Nat := if 2 ^ (n - 1) < q % 2 ^ n ∨ (q % 2 ^ n = 2 ^ (n - 1) ∧ q / 2 ^ n % 2 = 1) then q / 2 ^ n + 1 else q / 2 ^ n
theorem zHq (a b : Nat) (h : b < 4503599627370496) (ha : a < 4096) : Go.bits .or .u64 ((a * 4503599627370496 : Nat) : Int) (b : Int) = ((a * 4503599627370496 + b : Nat) : Int) := by
 rw [zYU _ _ (by omega) (by omega)];have := Nat.two_pow_add_eq_or_of_lt (i := 52) h a;rw [Nat.mul_comm a,show (4503599627370496 : Nat) = 2 ^ 52 from rfl,this]
theorem zJd (a : Nat) (h : a < 18446744073709551616) : Go.bits .or .u64 0 (a : Int) = (a : Int) := by
 have := zYU 0 a (by decide) h;rw [Nat.zero_or] at this;exact this
theorem zZs (a : Nat) (h : a < 18446744073709551616) : Go.bits .and .u64 (a : Int) 4503599627370495 = ((a % 4503599627370496 : Nat) : Int) := by
 have := zYZ a 4503599627370495 h (by decide);rw [show (4503599627370495 : Nat) = 2 ^ 52 - 1 from rfl,Nat.and_two_pow_sub_one_eq_mod] at this;exact this
def stick (Q R : Nat) : Nat := if 0 < R then Q ||| 1 else Q
theorem zXL {x m : Nat} (h : x < 2 ^ m) : (toB x).length ≤ m / 32 + 1 := by
 refine zKl _ _ (Nat.lt_of_lt_of_le h ?_);rw [zZr];exact Nat.pow_le_pow_right (by decide) (by omega)
theorem zYK (n : Nat) : 10 ^ n < 2 ^ (4 * n + 1) := by
 have h1 : 10 ^ n ≤ 16 ^ n := Nat.pow_le_pow_left (by decide) n;(have h2 : (16 : Nat) ^ n = 2 ^ (4 * n) := by rw [Nat.pow_mul]);have h3 : (2 : Nat) ^ (4 * n) < 2 ^ (4 * n + 1) := Nat.pow_lt_pow_right (by decide) (by omega);omega
theorem zWd (x n m : Nat) (hn : n ≤ 100000) (hm : m ≤ 1000000) (h : x * 10 ^ n < 2 ^ m) : Ev (fun k => b_tens.f k (toB x) (n : Int)) (toB (x * 10 ^ n)) := by
 refine tens0 (m / 32 + 1) (by omega) n x (by omega) (Nat.lt_of_lt_of_le h ?_);rw [zZr];exact Nat.pow_le_pow_right (by decide) (by omega)
theorem zVP (e : Int) (u v n j : Nat) (hj : (j : Int) = e + n + 1074) (he : e = (v : Int) - u) : K * (2 ^ v * 2 ^ n) = 2 ^ (j + 1) * 2 ^ u := by
 obtain ⟨E,hE,hKE⟩ := K_exp;rw [hKE,← Nat.pow_add,← Nat.pow_add,← Nat.pow_add,show E + (v + n) = j + 1 + u by omega]
def dval (s : ByteArray) : Nat → Nat
 | 0 => 0
 | i + 1 => dval s i * 10 + (bt s (i : Int) - 48).toNat
def zXO (s : ByteArray) : Prop := ∀ i : Nat,i < s.size → 48 ≤ bt s (i : Int) ∧ bt s (i : Int) ≤ 57
theorem zJI (s : ByteArray) (h : zXO s) : ∀ i,i ≤ s.size → dval s i < 10 ^ i
 | 0,_ => by simp [dval]
 | i + 1,hi => by
  have ih := zJI s h i (by omega);have := h i (by omega);rw [dval,Nat.pow_succ];omega
abbrev bytes (s : ByteArray) : List UInt8 := s.data.toList
theorem zXC (s : ByteArray) : (bytes s).length = s.size := Array.length_toList
theorem zZd {a b : ByteArray} (h : bytes a = bytes b) : a = b := by
 cases a;cases b
 congr 1
 exact Array.toList_inj.1 h
theorem zWu (s : ByteArray) (a b : Nat) : bytes (s.extract a b) = ((bytes s).take b).drop a := by
 unfold bytes;rw [ByteArray.data_extract,Array.toList_extract,List.extract_eq_take_drop,List.drop_take]
theorem bytes_append (a b : ByteArray) : bytes (a ++ b) = bytes a ++ bytes b := by
 unfold bytes;rw [ByteArray.data_append,Array.toList_append]
theorem zVI (s : ByteArray) (k : Nat) : bt s (k : Int) = (((bytes s)[k]?).map fun b => (b.toNat : Int)).getD 0 := by
 unfold bt;rw [Int.toNat_natCast];by_cases h : k < s.size
 ·rw [dif_pos h];unfold bytes;rw [List.getElem?_eq_getElem (by rw [zXC];exact h)]
  rfl
 ·rw [dif_neg h,List.getElem?_eq_none (by rw [zXC];omega)]
  rfl
theorem zJm (a b : ByteArray) (k : Nat) : bt (a ++ b) (k : Int) = if k < a.size then bt a (k : Int) else bt b ((k - a.size : Nat) : Int) := by
 rw [zVI,bytes_append];by_cases h : k < a.size
 ·rw [if_pos h,List.getElem?_append_left (by rw [zXC];exact h),zVI]
 ·rw [if_neg h,List.getElem?_append_right (by rw [zXC];omega),zXC,zVI]
def suf (s : ByteArray) (a : Nat) : ByteArray := s.extract a s.size
def Dg (s : ByteArray) (i : Nat) : Prop := i < s.size ∧ 48 ≤ bt s (i : Int) ∧ bt s (i : Int) ≤ 57
instance (s : ByteArray) (i : Nat) : Decidable (Dg s i) := by unfold Dg;exact inferInstance
def DE (s : ByteArray) (i j : Nat) : Prop := i ≤ j ∧ j ≤ s.size ∧ (∀ t,i ≤ t → t < j → Dg s t) ∧ ¬ Dg s j
def efold (s : ByteArray) : Nat → Nat → Nat → Nat
 | 0,a,e => e
 | n + 1,a,e => efold s n (a + 1) (min (10 * e + (bt s (a : Int) - 48).toNat) 9999)
def efrom (s : ByteArray) (a : Nat) : Nat := efold s (s.size - a) a 0
end Go.Proofs.YtflcanpajgpghaaGreatDoor.Pure
end
section
namespace Go.Proofs.YtflcanpajgpghaaGreatDoor.Pure
open Go.RowKit Go.Proofs.YtflcanpajgpghaaGreatDoor.Pr Go.Proofs.YtflcanpajgpghaaGreatDoorW.PrintWords Go.Proofs.YtflcanpajgpghaaGreatDoorW.PrintLast Go.Proofs.YtflcanpajgpghaaGreatDoorW.PrintMore
def toD (x : Nat) : List Int := if x = 0 then [] else ((x % 65536 : Nat) : Int) :: toD (x / 65536)
termination_by x
decreasing_by omega
theorem zXf : toD 0 = [] := by rw [toD];rfl
theorem zYb {x : Nat} (h : x ≠ 0) : toD x = ((x % 65536 : Nat) : Int) :: toD (x / 65536) := by rw [toD,if_neg h]
def valD : List Int → Nat
 | [] => 0
 | a :: l => a.toNat + 65536 * valD l
def Digs (l : List Int) : Prop := ∀ x ∈ l,0 ≤ x ∧ x < 65536
theorem zQP (x : Nat) : valD (toD x) = x := by
 induction x using Nat.strongRecOn with
 | _ x ih =>
  by_cases h : x = 0
  ·subst h;rw [zXf];rfl
  ·rw [zYb h,valD,ih (x / 65536) (by omega),Int.toNat_natCast];omega
theorem zQK (x : Nat) : Digs (toD x) := by
 induction x using Nat.strongRecOn with
 | _ x ih =>
  by_cases h : x = 0
  ·subst h;rw [zXf];intro y hy;cases hy
  ·rw [zYb h];intro y hy;rcases List.mem_cons.1 hy with rfl | hy
   ·omega
   ·exact ih (x / 65536) (by omega) y hy
theorem zXk (l m : List Int) : valD (l ++ m) = valD l + 65536 ^ l.length * valD m := by
 induction l with
 | nil => simp [valD]
 | cons a l ih =>
  rw [List.cons_append,valD,valD,ih,List.length_cons,Nat.pow_succ,Nat.mul_add,← Nat.mul_assoc,Nat.mul_comm 65536 (65536 ^ l.length)];omega
theorem zYC {l : List Int} (h : Digs l) : valD l < 65536 ^ l.length := by
 induction l with
 | nil => simp [valD]
 | cons a l ih =>
  have h1 := ih (fun x hx => h x (List.mem_cons_of_mem _ hx));have h2 := h a (List.mem_cons_self ..);rw [valD,List.length_cons,Nat.pow_succ];omega
theorem zHb {l : List Int} (h : Digs l) (hl : l = [] ∨ l.getLast? ≠ some 0) : toD (valD l) = l := by
 induction l with
 | nil => exact zXf
 | cons a l ih =>
  have h2 := h a (List.mem_cons_self ..);(have hp : Digs l := fun x hx => h x (List.mem_cons_of_mem _ hx));have hlast : (a :: l).getLast? ≠ some 0 := hl.resolve_left (by simp)
  have htl : l = [] ∨ l.getLast? ≠ some 0 := by
   by_cases hn : l = []
   ·exact .inl hn
   ·refine .inr ?_
    cases l with
    | nil => exact absurd rfl hn
    | cons b l => rwa [List.getLast?_cons_cons] at hlast
  have hne : valD (a :: l) ≠ 0 := by
   intro h0;rw [valD] at h0;by_cases hn : l = []
   ·subst hn;simp at hlast;omega
   ·have := ih hp htl;(have h3 : valD l = 0 := by omega);rw [h3,zXf] at this;exact hn this.symm
  rw [zYb hne];(have e1 : (valD (a :: l) % 65536 : Nat) = a.toNat := by rw [valD];omega);(have e2 : valD (a :: l) / 65536 = valD l := by rw [valD];omega);rw [e1,e2,ih hp htl]
  congr 1
  omega
theorem zYc {l m : List Int} (h : Digs l) (g : Digs m) : Digs (l ++ m) := fun x hx => (List.mem_append.1 hx).elim (h x) (g x)
theorem zXX {a : Int} (h : 0 ≤ a ∧ a < 65536) : Digs [a] := fun x hx => by rw [List.mem_singleton.1 hx];exact h
theorem getDD {l : List Int} (hp : Digs l) (i : Nat) : ∃ a : Nat,l.getD i 0 = (a : Int) ∧ a < 65536 ∧ (l.length ≤ i → a = 0) := by
 by_cases h : i < l.length
 ·have := hp (l.getD i 0) (by rw [List.getD_eq_getElem?_getD,List.getElem?_eq_getElem h];exact List.getElem_mem h);exact ⟨(l.getD i 0).toNat,by omega,by omega,fun h2 => by omega⟩
 ·refine ⟨0,?_,by decide,fun _ => rfl⟩;rw [List.getD_eq_getElem?_getD,List.getElem?_eq_none (by omega)]
  rfl
theorem zYz (l : List Int) (i : Nat) (hp : Digs l) : ∃ a : Nat,l.getD i 0 = (a : Int) ∧ a < 65536 ∧ valD (l.drop i) = a + 65536 * valD (l.drop (i + 1)) ∧ (l.length ≤ i → a = 0) := by
 obtain ⟨a,h1,h2,h3⟩ := getDD hp i;refine ⟨a,h1,h2,?_,h3⟩;by_cases h : i < l.length
 ·rw [List.drop_eq_getElem_cons h,valD]
  have : l[i] = (a : Int) := by
   rw [← h1,List.getD_eq_getElem?_getD,List.getElem?_eq_getElem h]
   rfl
  rw [this,Int.toNat_natCast]
 ·rw [List.drop_eq_nil_of_le (by omega),List.drop_eq_nil_of_le (by omega),h3 (by omega)]
  rfl
theorem zYN {l : List Int} {i : Nat} (h : i < l.length) : valD (l.take (i + 1)) = valD (l.take i) + 65536 ^ i * (l.getD i 0).toNat := by
 rw [List.take_succ_eq_append_getElem h,zXk,List.length_take,Nat.min_eq_left (Nat.le_of_lt h),List.getD_eq_getElem?_getD,List.getElem?_eq_getElem h];simp [valD]
theorem zXQ {l : List Int} (hp : Digs l) (i : Nat) : valD (l.take i) < 65536 ^ i := by
 have := zYC (l := l.take i) (fun x hx => hp x (List.mem_of_mem_take hx));refine Nat.lt_of_lt_of_le this (Nat.pow_le_pow_right (by decide) ?_);rw [List.length_take];exact Nat.min_le_left ..
theorem zKM (l : List Int) (hp : Digs l) (hl : l.length ≤ 1000000) : ∀ i,i ≤ l.length → Ev (fun k => r1_Trim.l0 k l (i : Int)) (toD (valD (l.take i)))
 | 0,_ => by
  rw [List.take_zero];refine Ev.step (f := fun _ => some []) (fun k => ?_) (by rw [show valD [] = 0 from rfl,zXf];exact Ev.now _);rw [r1_Trim.l0,if_neg (by omega),Option.bind_some,if_pos (by omega),if_pos (by omega)];simp
 | i + 1,hi => by
  obtain ⟨a,h1,h2,_⟩ := getDD hp i;(have hw : wrap64 (((i + 1 : Nat) : Int) - 1) = (i : Int) := by rw [wrapB _ (by omega) (by omega)];omega);by_cases h0 : a = 0
  ·have ih := zKM l hp hl i (by omega);(have e : valD (l.take (i + 1)) = valD (l.take i) := by rw [zYN (by omega),h1,h0];simp);rw [e];refine Ev.step (fun k => ?_) ih;rw [r1_Trim.l0,if_pos (by omega),hw,if_pos (by omega),if_pos (by omega),zYg,if_pos (by omega)]
  ·have e : toD (valD (l.take (i + 1))) = l.take (i + 1) := by
    refine zHb (fun x hx => hp x (List.mem_of_mem_take hx)) (.inr ?_);rw [List.take_succ_eq_append_getElem (by omega),List.getLast?_append]
    have : l[i]'(by omega) = (a : Int) := by
     rw [← h1,List.getD_eq_getElem?_getD,List.getElem?_eq_getElem (by omega)]
     rfl
    rw [this];simp;omega
   rw [e];refine Ev.step (f := fun _ => some (l.take (i + 1))) (fun k => ?_) (Ev.now _);rw [r1_Trim.l0,if_pos (by omega),hw,if_pos (by omega),if_pos (by omega),zYg,if_neg (by omega),Option.bind_some,if_pos (by omega),if_pos (by omega),Int.toNat_natCast,if_pos (by rw [List.length_take];simp;omega)]
   rfl
theorem zYF (l : List Int) (hp : Digs l) (hl : l.length ≤ 1000000) : Ev (fun k => r1_Trim.f k l) (toD (valD l)) := by
 have := zKM l hp hl l.length (Nat.le_refl _);rw [List.take_length] at this;exact this
theorem zXJ (l : List Int) (i : Nat) : r1_at.f l (i : Int) = some (l.getD i 0) := by
 unfold r1_at.f;by_cases h : i < l.length
 ·rw [if_pos (by omega),if_pos (by omega),zYg]
 ·rw [if_neg (by omega),List.getD_eq_getElem?_getD,List.getElem?_eq_none (by omega)]
  rfl
theorem zZO (l m : List Int) : r1_most.f l m = some ((max l.length m.length : Nat) : Int) := by
 unfold r1_most.f;by_cases h : (l.length : Int) > (m.length : Int)
 ·rw [if_pos h,Nat.max_eq_left (by omega)]
 ·rw [if_neg h,Nat.max_eq_right (by omega)]
theorem zKv (a : Nat) (h : a < 18446744073709551616) : Go.bits .and .u64 (a : Int) 65535 = ((a % 65536 : Nat) : Int) := by
 have := zYZ a 65535 h (by decide);rw [show (65535 : Nat) = 2 ^ 16 - 1 from rfl,Nat.and_two_pow_sub_one_eq_mod] at this;exact this
theorem zWN (l m : List Int) (hp : Digs l) (hm : Digs m) (hl : l.length ≤ 900000) (hml : m.length ≤ 900000) : ∀ (d i : Nat) (acc : List Int) (c : Nat),i + d = max l.length m.length → acc.length = i → Digs acc → c ≤ 1 →
  Ev (fun k => r1_Sum.l0 k l m acc (c : Int) (i : Int)) (toD (valD acc + 65536 ^ i * (valD (l.drop i) + valD (m.drop i) + c)))
 | 0,i,acc,c,hi,ha,hpa,hc => by
  have hd : l.drop i = [] := List.drop_eq_nil_of_le (by omega);have hd2 : m.drop i = [] := List.drop_eq_nil_of_le (by omega)
  have hv : valD acc + 65536 ^ i * (valD (l.drop i) + valD (m.drop i) + c) = valD (acc ++ [(c : Int)]) := by
   rw [hd,hd2,zXk,ha];simp [valD]
  rw [hv];have ht := zYF (acc ++ [(c : Int)]) (zYc hpa (zXX (by omega))) (by rw [List.length_append,List.length_singleton];omega);refine Ev.step (fun k => ?_) (Ev.bind ht (Ev.now _));rw [r1_Sum.l0,zZO,Option.bind_some,if_neg (by omega),if_pos (by omega)]
 | d + 1,i,acc,c,hi,ha,hpa,hc => by
  obtain ⟨a,ga,ha2,hL,_⟩ := zYz l i hp;obtain ⟨b,gb,hb2,hM,_⟩ := zYz m i hm;have ih := zWN l m hp hm hl hml d (i + 1) (acc ++ [(((a + b + c) % 65536 : Nat) : Int)]) ((a + b + c) / 65536) (by omega) (by rw [List.length_append,List.length_singleton];omega) (zYc hpa (zXX (by omega))) (by omega)
  have hv : valD acc + 65536 ^ i * (valD (l.drop i) + valD (m.drop i) + c) = valD (acc ++ [(((a + b + c) % 65536 : Nat) : Int)]) + 65536 ^ (i + 1) * (valD (l.drop (i + 1)) + valD (m.drop (i + 1)) + (a + b + c) / 65536) := by
   rw [zXk,ha,hL,hM,Nat.pow_succ,Nat.mul_assoc,Nat.add_assoc (valD acc),← Nat.mul_add];simp only [valD,Nat.mul_zero,Nat.add_zero,Int.toNat_natCast]
   congr 2
   omega
  rw [hv];refine Ev.step (fun k => ?_) ih;rw [r1_Sum.l0,zZO,Option.bind_some,if_pos (by omega),zXJ,Option.bind_some,zXJ,Option.bind_some,if_pos (by omega),ga,gb,show ((a : Int) + (b : Int)) = ((a + b : Nat) : Int) by push_cast;rfl,u64_in (a + b) (by omega),show (((a + b : Nat) : Int) + (c : Int)) = ((a + b + c : Nat) : Int) by push_cast;rfl,u64_in (a + b + c) (by omega),zKv _ (by omega),wrapB _ (by omega) (by omega)];simp only [Int.natCast_emod,Int.natCast_ediv,Int.natCast_add,Int.natCast_one]
  rfl
theorem zJz (l m : List Int) (hp : Digs l) (hm : Digs m) (hl : l.length ≤ 900000) (hml : m.length ≤ 900000) : Ev (fun k => r1_Sum.f k l m) (toD (valD l + valD m)) := by
 have g := zWN l m hp hm hl hml (max l.length m.length) 0 [] 0 (by omega) rfl (fun y hy => by cases hy) (by omega);rw [List.drop_zero,List.drop_zero,Nat.pow_zero,Nat.one_mul] at g;(have e : valD [] + (valD l + valD m + 0) = valD l + valD m := by simp [valD]);rw [e] at g;exact g
theorem zZe (l m : List Int) (hp : Digs l) (hm : Digs m) (hl : l.length ≤ 900000) : ∀ (d i : Nat) (acc : List Int) (c : Nat),i + d = l.length → acc.length = i → Digs acc → c ≤ 1 → valD (m.drop i) + c ≤ valD (l.drop i) →
  Ev (fun k => r1_Minus.l0 k l m acc (c : Int) (i : Int)) (toD (valD acc + 65536 ^ i * (valD (l.drop i) - valD (m.drop i) - c)))
 | 0,i,acc,c,hi,ha,hpa,hc,hle => by
  have hd : l.drop i = [] := List.drop_eq_nil_of_le (by omega);rw [hd] at hle ⊢;(have e : valD ([] : List Int) - valD (m.drop i) - c = 0 := by simp [valD]);rw [e,Nat.mul_zero,Nat.add_zero];refine Ev.step (fun k => ?_) (Ev.bind (zYF acc hpa (by omega)) (Ev.now _));rw [r1_Minus.l0,if_neg (by omega)]
 | d + 1,i,acc,c,hi,ha,hpa,hc,hle => by
  obtain ⟨a,ga,ha2,hL,_⟩ := zYz l i hp;obtain ⟨b,gb,hb2,hM,_⟩ := zYz m i hm;obtain ⟨L,hLe⟩ : ∃ L,L = valD (l.drop (i + 1)) := ⟨_,rfl⟩;obtain ⟨M,hMe⟩ : ∃ M,M = valD (m.drop (i + 1)) := ⟨_,rfl⟩;rw [hL,hM,← hLe,← hMe] at hle ⊢;(have hbc : IntKind.u64.wrap ((b : Int) + (c : Int)) = ((b + c : Nat) : Int) := by rw [show ((b : Int) + (c : Int)) = ((b + c : Nat) : Int) by push_cast;rfl,u64_in _ (by omega)]);by_cases h : a < b + c
  ·have ih := zZe l m hp hm hl d (i + 1) (acc ++ [((a + 65536 - b - c : Nat) : Int)]) 1 (by omega) (by rw [List.length_append,List.length_singleton];omega) (zYc hpa (zXX (by omega))) (by omega) (by rw [← hLe,← hMe];omega);rw [← hLe,← hMe] at ih
   have hv : valD acc + 65536 ^ i * (a + 65536 * L - (b + 65536 * M) - c) = valD (acc ++ [((a + 65536 - b - c : Nat) : Int)]) + 65536 ^ (i + 1) * (L - M - 1) := by
    rw [zXk,ha,Nat.pow_succ,Nat.mul_assoc,Nat.add_assoc,← Nat.mul_add];simp only [valD,Nat.mul_zero,Nat.add_zero,Int.toNat_natCast]
    congr 2
    omega
   rw [hv];refine Ev.step (fun k => ?_) ih;have hw1 : IntKind.u64.wrap ((a : Int) + 65536) = ((a + 65536 : Nat) : Int) := u64_in (a + 65536) (by omega);(have hw2 : IntKind.u64.wrap (((a + 65536 : Nat) : Int) - ((b + c : Nat) : Int)) = ((a + 65536 - b - c : Nat) : Int) := by rw [show (((a + 65536 : Nat) : Int) - ((b + c : Nat) : Int)) = ((a + 65536 - b - c : Nat) : Int) by omega,u64_in _ (by omega)]);rw [r1_Minus.l0,if_pos (by omega),if_pos (by omega),zXJ,Option.bind_some,gb,hbc,zYg,ga,if_pos (by omega),if_pos (by omega),hw1,hw2,wrapB _ (by omega) (by omega)]
   rfl
  ·have ih := zZe l m hp hm hl d (i + 1) (acc ++ [((a - b - c : Nat) : Int)]) 0 (by omega) (by rw [List.length_append,List.length_singleton];omega) (zYc hpa (zXX (by omega))) (by omega) (by rw [← hLe,← hMe];omega);rw [← hLe,← hMe] at ih
   have hv : valD acc + 65536 ^ i * (a + 65536 * L - (b + 65536 * M) - c) = valD (acc ++ [((a - b - c : Nat) : Int)]) + 65536 ^ (i + 1) * (L - M - 0) := by
    rw [zXk,ha,Nat.pow_succ,Nat.mul_assoc,Nat.add_assoc,← Nat.mul_add];simp only [valD,Nat.mul_zero,Nat.add_zero,Int.toNat_natCast]
    congr 2
    omega
   rw [hv];refine Ev.step (fun k => ?_) ih;(have hw2 : IntKind.u64.wrap ((a : Int) - ((b + c : Nat) : Int)) = ((a - b - c : Nat) : Int) := by rw [show ((a : Int) - ((b + c : Nat) : Int)) = ((a - b - c : Nat) : Int) by omega,u64_in _ (by omega)]);rw [r1_Minus.l0,if_pos (by omega),if_pos (by omega),zXJ,Option.bind_some,gb,hbc,zYg,ga,if_neg (by omega),if_pos (by omega),hw2,wrapB _ (by omega) (by omega)]
   rfl
theorem zBX (l m : List Int) (hp : Digs l) (hm : Digs m) (hl : l.length ≤ 900000) (h : valD m ≤ valD l) : Ev (fun k => r1_Minus.f k l m) (toD (valD l - valD m)) := by
 have g := zZe l m hp hm hl l.length 0 [] 0 (by omega) rfl (fun y hy => by cases hy) (by omega) (by rw [List.drop_zero,List.drop_zero];omega);rw [List.drop_zero,List.drop_zero,Nat.pow_zero,Nat.one_mul] at g;(have e : valD [] + (valD l - valD m - 0) = valD l - valD m := by simp [valD]);rw [e] at g;exact g
theorem zWW (l m : List Int) (hp : Digs l) (hm : Digs m) : ∀ i : Nat,i ≤ 900000 → ∃ c : Int,Ev (fun k => r1_Cmp.l0 k l m ((i : Int) - 1)) c ∧ (c ≥ 0 ↔ valD (m.take i) ≤ valD (l.take i))
 | 0,_ => by
  refine ⟨0,Ev.step (f := fun _ => some 0) (fun k => ?_) (Ev.now _),by simp [valD]⟩;rw [r1_Cmp.l0,if_neg (by omega)]
 | i + 1,hi => by
  obtain ⟨a,ga,ha2,ha3⟩ := getDD hp i;obtain ⟨b,gb,hb2,hb3⟩ := getDD hm i
  have tk : ∀ (l : List Int) (a : Nat),l.getD i 0 = (a : Int) → (l.length ≤ i → a = 0) → valD (l.take (i + 1)) = valD (l.take i) + 65536 ^ i * a := by
   intro l a g g0;by_cases h : i < l.length
   ·rw [zYN h,g,Int.toNat_natCast]
   ·rw [List.take_of_length_le (by omega),List.take_of_length_le (by omega),g0 (by omega),Nat.mul_zero,Nat.add_zero]
  have e1 := tk l a ga ha3;have e2 := tk m b gb hb3;have t1 := zXQ hp i;have t2 := zXQ hm i;(have hk : ((i + 1 : Nat) : Int) - 1 = (i : Int) := by omega);rw [hk,e1,e2];obtain ⟨P,hP⟩ : ∃ P,P = 65536 ^ i := ⟨_,rfl⟩;rw [← hP] at t1 t2 ⊢;by_cases hlt : a < b
  ·refine ⟨-1,Ev.step (f := fun _ => some (-1)) (fun k => ?_) (Ev.now _),?_⟩
   ·rw [r1_Cmp.l0,if_pos (by omega),zXJ,Option.bind_some,zXJ,Option.bind_some,ga,gb,if_pos (by omega)]
   ·have : P * (a + 1) ≤ P * b := Nat.mul_le_mul_left _ hlt;rw [Nat.mul_succ] at this;omega
  ·by_cases hgt : b < a
   ·refine ⟨1,Ev.step (f := fun _ => some 1) (fun k => ?_) (Ev.now _),?_⟩
    ·rw [r1_Cmp.l0,if_pos (by omega),zXJ,Option.bind_some,zXJ,Option.bind_some,ga,gb,if_neg (by omega)];simp only [Option.bind_some];rw [if_pos (by omega)]
    ·have : P * (b + 1) ≤ P * a := Nat.mul_le_mul_left _ hgt;rw [Nat.mul_succ] at this;omega
   ·(obtain rfl : a = b := by omega);obtain ⟨c,hc,c1⟩ := zWW l m hp hm i (by omega);refine ⟨c,Ev.step (fun k => ?_) hc,?_⟩
    ·rw [r1_Cmp.l0,if_pos (by omega),zXJ,Option.bind_some,zXJ,Option.bind_some,ga,gb,if_neg (by omega)];simp only [Option.bind_some];rw [if_neg (by omega),wrapB _ (by omega) (by omega)]
    ·rw [c1];omega
theorem zJD (l m : List Int) (hp : Digs l) (hm : Digs m) (hl : l.length ≤ 900000) (hml : m.length ≤ 900000) : ∃ c : Int,Ev (fun k => r1_Cmp.f k l m) c ∧ (c ≥ 0 ↔ valD m ≤ valD l) := by
 obtain ⟨c,hc,c1⟩ := zWW l m hp hm (max l.length m.length) (by omega);rw [List.take_of_length_le (by omega),List.take_of_length_le (by omega)] at c1;refine ⟨c,Ev.congr (fun k => ?_) hc,c1⟩;unfold r1_Cmp.f;rw [zZO,Option.bind_some,wrapB _ (by omega) (by omega)]
theorem zKs (n : Nat) : 0 < (65536 : Nat) ^ n := Nat.pow_pos (by decide)
theorem zXs (n : Nat) : (65536 : Nat) ^ n = 2 ^ (16 * n) := by rw [Nat.pow_mul]
theorem zWb (l : List Int) (i : Nat) (v : Nat) (h : i < l.length) (o : Nat) (ho : l.getD i 0 = (o : Int)) : valD (l.set i (v : Int)) + 65536 ^ i * o = valD l + 65536 ^ i * v := by
 have e1 : l = l.take i ++ (o : Int) :: l.drop (i + 1) := by
  have : l[i] = (o : Int) := by
   rw [← ho,List.getD_eq_getElem?_getD,List.getElem?_eq_getElem h]
   rfl
  rw [← this,← List.drop_eq_getElem_cons h,List.take_append_drop]
 have e2 : l.set i (v : Int) = l.take i ++ (v : Int) :: l.drop (i + 1) := List.set_eq_take_append_cons_drop .. |>.trans (by rw [if_pos h])
 have e3 : valD l = valD (l.take i) + 65536 ^ i * (o + 65536 * valD (l.drop (i + 1))) := by
  (conv => lhs;rw [e1]);rw [zXk,List.length_take,Nat.min_eq_left (Nat.le_of_lt h),valD,Int.toNat_natCast]
 rw [e2,e3,zXk,List.length_take,Nat.min_eq_left (Nat.le_of_lt h),valD,Int.toNat_natCast,Nat.mul_add,Nat.mul_add];omega
theorem zWs {l : List Int} (h : Digs l) (i : Nat) {v : Int} (hv : 0 ≤ v ∧ v < 65536) : Digs (l.set i v) := fun x hx => (List.mem_or_eq_of_mem_set hx).elim (h x) (fun e => e ▸ hv)
theorem getD_set_ne (l : List Int) (i j : Nat) (v : Int) (h : i ≠ j) : (l.set i v).getD j 0 = l.getD j 0 := by
 rw [List.getD_eq_getElem?_getD,List.getElem?_set_ne h,← List.getD_eq_getElem?_getD]
theorem zYy (i : Nat) (h : i ≤ 1000000000) : wrap64 ((i : Int) + 1) = ((i + 1 : Nat) : Int) := by rw [wrapB _ (by omega) (by omega)];omega
theorem wrap_add (i q : Nat) (h : i + q ≤ 1000000000) : wrap64 ((i : Int) + (q : Int)) = ((i + q : Nat) : Int) := by rw [wrapB _ (by omega) (by omega)];omega
theorem zBE : ∀ z : Nat,z % 2 = 0 → z < 2 → z = 0 := by omega
theorem zHr {a b : Nat} (ha : a < 65536) (hb : b < 65536) : a * b ≤ 4294836225 := by
 have : a * b ≤ 65535 * 65535 := Nat.mul_le_mul (by omega) (by omega);omega
theorem zBe (l m : List Int) (hp : Digs l) (hm : Digs m) (hl : l.length ≤ 400000) (hml : m.length ≤ 400000) (i a : Nat) (hi : i < l.length) (ha : l.getD i 0 = (a : Int)) (ha2 : a < 65536) (V : Nat) (r : List Int)
  (hend : ∀ out : List Int,out.length = l.length + m.length → Digs out → (∀ j,i + m.length < j → out.getD j 0 = 0) → valD out = V + 65536 ^ i * (a * valD m) → Ev (fun k => r1_Product.l0 k l m out ((i + 1 : Nat) : Int)) r) :
  ∀ (d q : Nat) (out : List Int) (c : Nat),q + d = m.length → c < 65536 → out.length = l.length + m.length → Digs out → (∀ j,i + m.length ≤ j → out.getD j 0 = 0) → valD out + 65536 ^ (i + q) * c = V + 65536 ^ i * (a * valD (m.take q)) →
  Ev (fun k => r1_Product.l1 k l m out (i : Int) (c : Int) (q : Int)) r
 | 0,q,out,c,hq,hc,hol,hod,hoz,hv => by
  (obtain rfl : q = m.length := by omega);rw [List.take_length] at hv;have hs := zWb out (i + m.length) c (by omega) 0 (by rw [hoz _ (Nat.le_refl _)];rfl);have g := hend (out.set (i + m.length) (c : Int)) (by rw [List.length_set];exact hol) (zWs hod _ (by omega)) (fun j hj => by rw [getD_set_ne _ _ _ _ (by omega)];exact hoz j (by omega)) (by omega);(have b1 : i + m.length ≤ 1000000000 := by omega);(have b2 : i ≤ 1000000000 := by omega);have hw := wrap_add i m.length b1;have w1 := zYy i b2
  have q1 : ¬ ((m.length : Nat) : Int) < ((m.length : Nat) : Int) := Int.lt_irrefl _
  have q2 : (0 : Int) ≤ ((i + m.length : Nat) : Int) := Int.natCast_nonneg _
  have q3 : ((i + m.length : Nat) : Int) < ((out.length : Nat) : Int) := Int.ofNat_lt.2 (by rw [hol];exact Nat.add_lt_add_right hi _);refine Ev.step (fun k => ?_) g;rw [r1_Product.l1,if_neg q1,hw,if_pos q2,if_pos q3,Int.toNat_natCast,w1]
 | d + 1,q,out,c,hq,hc,hol,hod,hoz,hv => by
  obtain ⟨b,gb,hb2,_⟩ := getDD hm q;obtain ⟨o,go,ho2,_⟩ := getDD hod (i + q);have hmul := zHr ha2 hb2;have ht := zYN (l := m) (i := q) (by omega);rw [gb,Int.toNat_natCast] at ht;have hs := zWb out (i + q) ((o + a * b + c) % 65536) (by omega) o go;have hpow : 65536 ^ (i + (q + 1)) = 65536 ^ (i + q) * 65536 := by rw [← Nat.add_assoc,Nat.pow_succ]
  have hval : valD (out.set (i + q) (((o + a * b + c) % 65536 : Nat) : Int)) + 65536 ^ (i + (q + 1)) * ((o + a * b + c) / 65536) = V + 65536 ^ i * (a * valD (m.take (q + 1))) := by
   rw [ht,hpow,Nat.mul_assoc];obtain ⟨P,hP⟩ : ∃ P,P = 65536 ^ (i + q) := ⟨_,rfl⟩;rw [← hP] at hs hv ⊢
   have e1 : 65536 ^ i * (a * (valD (m.take q) + 65536 ^ q * b)) = 65536 ^ i * (a * valD (m.take q)) + P * (a * b) := by
    rw [hP,Nat.pow_add,Nat.mul_add,Nat.mul_add]
    congr 1
    simp only [Nat.mul_assoc,Nat.mul_comm,Nat.mul_left_comm]
   rw [e1]
   have e2 : P * ((o + a * b + c) % 65536) + P * (65536 * ((o + a * b + c) / 65536)) = P * o + P * (a * b) + P * c := by
    rw [← Nat.mul_add,Nat.mod_add_div,Nat.mul_add,Nat.mul_add]
   omega
  have ih := zBe l m hp hm hl hml i a hi ha ha2 V r hend d (q + 1) (out.set (i + q) (((o + a * b + c) % 65536 : Nat) : Int)) ((o + a * b + c) / 65536) (by omega) (by omega) (by rw [List.length_set];exact hol) (zWs hod _ (by omega))
   (fun j hj => by rw [getD_set_ne _ _ _ _ (by omega)];exact hoz j hj) hval
  have q1 : ((q : Nat) : Int) < ((m.length : Nat) : Int) := Int.ofNat_lt.2 (by omega)
  have q2 : (0 : Int) ≤ ((i + q : Nat) : Int) := Int.natCast_nonneg _
  have q3 : ((i + q : Nat) : Int) < ((out.length : Nat) : Int) := Int.ofNat_lt.2 (by omega)
  have q4 : (0 : Int) ≤ ((i : Nat) : Int) := Int.natCast_nonneg _
  have q5 : ((i : Nat) : Int) < ((l.length : Nat) : Int) := Int.ofNat_lt.2 hi
  have q6 : (0 : Int) ≤ ((q : Nat) : Int) := Int.natCast_nonneg _
  (have q7 : o + a * b + c < 18446744073709551616 := by omega);(have q8 : a * b < 18446744073709551616 := by omega);(have q9 : o + a * b < 18446744073709551616 := by omega);(have b1 : i + q ≤ 1000000000 := by omega);(have b2 : q ≤ 1000000000 := by omega);have hw := wrap_add i q b1;have w1 := zYy q b2;refine Ev.step (fun k => ?_) ih
  have hx : IntKind.u64.wrap ((IntKind.u64.wrap ((rd out ((i + q : Nat) : Int)) + (IntKind.u64.wrap ((rd l (i : Int)) * (rd m (q : Int)))))) + (c : Int)) = ((o + a * b + c : Nat) : Int) := by
   rw [zYg,zYg,zYg,go,ha,gb,show ((a : Int) * (b : Int)) = ((a * b : Nat) : Int) by push_cast;rfl,u64_in (a * b) q8,show ((o : Int) + ((a * b : Nat) : Int)) = ((o + a * b : Nat) : Int) by push_cast;rfl,u64_in (o + a * b) q9,show (((o + a * b : Nat) : Int) + (c : Int)) = ((o + a * b + c : Nat) : Int) by push_cast;rfl,u64_in _ q7]
  rw [r1_Product.l1,if_pos q1,hw,if_pos q2,if_pos q3,if_pos q4,if_pos q5,if_pos q6,hx,zKv _ q7,Int.toNat_natCast,w1]
  rfl
theorem zWZ (l m : List Int) (hp : Digs l) (hm : Digs m) (hl : l.length ≤ 400000) (hml : m.length ≤ 400000) : ∀ (d i : Nat) (out : List Int),i + d = l.length → out.length = l.length + m.length → Digs out → (∀ j,i + m.length ≤ j → out.getD j 0 = 0) → valD out = valD (l.take i) * valD m →
  Ev (fun k => r1_Product.l0 k l m out (i : Int)) (toD (valD l * valD m))
 | 0,i,out,hi,hol,hod,hoz,hv => by
  (obtain rfl : i = l.length := by omega);rw [List.take_length] at hv;refine Ev.step (fun k => ?_) (Ev.bind (f := fun _ t => some t) (hv ▸ zYF out hod (by omega)) (Ev.now _));rw [r1_Product.l0,if_neg (by omega)]
 | d + 1,i,out,hi,hol,hod,hoz,hv => by
  obtain ⟨a,ga,ha2,_⟩ := getDD hp i;have ht := zYN (l := l) (i := i) (by omega);rw [ga,Int.toNat_natCast] at ht
  have hrow := zBe l m hp hm hl hml i a (by omega) ga ha2 (valD out) (toD (valD l * valD m))
   (fun out' h1 h2 h3 h4 => zWZ l m hp hm hl hml d (i + 1) out' (by omega) h1 h2 (fun j hj => h3 j (by omega)) (by rw [h4,ht,hv,Nat.add_mul,Nat.mul_assoc]))
   m.length 0 out 0 (by omega) (by omega) hol hod hoz (by simp [valD])
  refine Ev.step (fun k => ?_) hrow;rw [r1_Product.l0,if_pos (by omega)]
  rfl
theorem zZu (n : Nat) : Digs (List.replicate n (0 : Int)) := fun x hx => by rw [List.eq_of_mem_replicate hx];omega
theorem zZf : ∀ n,valD (List.replicate n (0 : Int)) = 0
 | 0 => rfl
 | n + 1 => by rw [List.replicate_succ,valD,zZf n];rfl
theorem zYo (l m : List Int) (hp : Digs l) (hm : Digs m) (hl : l.length ≤ 400000) (hml : m.length ≤ 400000) : Ev (fun k => r1_Product.f k l m) (toD (valD l * valD m)) := by
 have h := zWZ l m hp hm hl hml l.length 0 (List.replicate (l.length + m.length) 0) (by omega) (List.length_replicate ..) (zZu _) (fun j _ => by
   rw [List.getD_eq_getElem?_getD];by_cases hj : j < l.length + m.length
   ·rw [List.getElem?_replicate_of_lt hj];rfl
   ·rw [List.getElem?_eq_none (by rw [List.length_replicate];omega)];rfl) (by rw [zZf];simp [valD])
 (have hw : wrap64 ((l.length : Int) + (m.length : Int)) = ((l.length + m.length : Nat) : Int) := by rw [wrapB _ (by omega) (by omega)];omega);refine Ev.congr (fun k => ?_) h;unfold r1_Product.f;rw [hw,if_pos (by omega),if_pos (by omega),Int.toNat_natCast]
 rfl
theorem zKL (l : List Int) (hp : Digs l) (n : Nat) (hl : l.length + n ≤ 300000) : Ev (fun k => r1_Up.f k l (n : Int)) (toD (valD l * 2 ^ n)) := by
 (have hq : Int.tdiv (n : Int) 16 = ((n / 16 : Nat) : Int) := by rw [Int.tdiv_eq_ediv_of_nonneg (by omega)];omega);(have hr : Int.tmod (n : Int) 16 = ((n % 16 : Nat) : Int) := by rw [Int.tmod_eq_emod_of_nonneg (by omega)];omega);have hlt : 2 ^ (n % 16) < 65536 := Nat.lt_of_lt_of_le (Nat.pow_lt_pow_right (by decide) (Nat.mod_lt n (by decide : 0 < 16))) (Nat.le_refl _)
 have hsh : shl .u64 1 ((n % 16 : Nat) : Int) = ((2 ^ (n % 16) : Nat) : Int) := by
  have h9 := zJw 1 (n % 16) (by omega);rw [Nat.one_mul,Nat.mod_eq_of_lt (Nat.lt_of_lt_of_le hlt (by decide))] at h9;exact h9
 have hone : Digs [((2 ^ (n % 16) : Nat) : Int)] := zXX ⟨Int.natCast_nonneg _,Int.ofNat_lt.2 hlt⟩;have hz : Digs (List.replicate (n / 16) 0 ++ l) := zYc (zZu _) hp;(have hzl : (List.replicate (n / 16) (0 : Int) ++ l).length ≤ 400000 := by rw [List.length_append,List.length_replicate];omega);have hpr := zYo (List.replicate (n / 16) 0 ++ l) [((2 ^ (n % 16) : Nat) : Int)] hz hone hzl (show 1 ≤ 400000 by decide)
 have hval : valD (List.replicate (n / 16) 0 ++ l) * valD [((2 ^ (n % 16) : Nat) : Int)] = valD l * 2 ^ n := by
  rw [zXk,zZf,List.length_replicate];simp only [valD,Nat.zero_add,Nat.mul_zero,Nat.add_zero,Int.toNat_natCast];rw [zXs,Nat.mul_comm (2 ^ (16 * (n / 16))),Nat.mul_assoc,← Nat.pow_add]
  congr 2
  omega
 rw [hval] at hpr
 have hlen : (toD (valD l * 2 ^ n)).length ≤ 1000000 := by
  have hL : ∀ (L x : Nat),x < 65536 ^ L → (toD x).length ≤ L := by
   intro L
   induction L with
   | zero =>
    intro x h;(have hx0 : x = 0 := by rw [Nat.pow_zero] at h;omega);rw [hx0,zXf]
    exact Nat.le_refl _
   | succ L ih =>
    intro x h;by_cases h0 : x = 0
    ·rw [h0,zXf];exact Nat.zero_le _
    ·rw [zYb h0,List.length_cons]
     have : x / 65536 < 65536 ^ L := by
      rw [Nat.pow_succ] at h;exact Nat.div_lt_of_lt_mul (by rw [Nat.mul_comm];exact h)
     have := ih _ this;omega
  refine Nat.le_trans (hL (l.length + n) _ ?_) (by omega);rw [Nat.pow_add];exact Nat.mul_lt_mul_of_lt_of_le (zYC hp) (Nat.pow_le_pow_left (by decide) n) (Nat.pow_pos (by decide))
 have htr := zYF _ (zQK (valD l * 2 ^ n)) hlen;rw [zQP] at htr;have hb : Ev (fun k => (r1_Product.f k (List.replicate (n / 16) 0 ++ l) [((2 ^ (n % 16) : Nat) : Int)]).bind fun t => (r1_Trim.f k t).bind fun u => some u) (toD (valD l * 2 ^ n)) := Ev.bind hpr (Ev.bind htr (Ev.now _));refine Ev.congr (fun k => ?_) hb;unfold r1_Up.f;rw [hq,hr,wrapB _ (by omega) (by omega),if_pos (by omega),if_pos (by omega),Option.bind_some,Int.toNat_natCast,u64_in _ (by omega),if_pos (by rw [List.length_replicate];omega),if_pos (by omega),hsh]
theorem zKg (l : List Int) (hp : Digs l) (i : Nat) (hi : i ≤ 100000000) : r1_Bit.f l (i : Int) = some ((valD l / 2 ^ i % 2 : Nat) : Int) := by
 (have hq : Int.tdiv (i : Int) 16 = ((i / 16 : Nat) : Int) := by rw [Int.tdiv_eq_ediv_of_nonneg (by omega)];omega);(have hr : Int.tmod (i : Int) 16 = ((i % 16 : Nat) : Int) := by rw [Int.tmod_eq_emod_of_nonneg (by omega)];omega);obtain ⟨a,ga,ha2,_⟩ := getDD hp (i / 16);have hrl : i % 16 < 16 := Nat.mod_lt _ (by decide)
 have hbit : a / 2 ^ (i % 16) % 2 = valD l / 2 ^ i % 2 := by
  obtain ⟨a',ga',_,hd,_⟩ := zYz l (i / 16) hp;obtain rfl : a = a' := by rw [ga] at ga';omega
  have hsplit : valD l = valD (l.take (i / 16)) + 65536 ^ (i / 16) * valD (l.drop (i / 16)) := by
   by_cases h : i / 16 ≤ l.length
   ·have := zXk (l.take (i / 16)) (l.drop (i / 16));rw [List.take_append_drop,List.length_take,Nat.min_eq_left h] at this;exact this
   ·rw [List.take_of_length_le (by omega),List.drop_eq_nil_of_le (by omega)];simp [valD]
  have hlow := zXQ hp (i / 16)
  have hdiv : valD l / 2 ^ (16 * (i / 16)) = valD (l.drop (i / 16)) := by
   rw [← zXs,hsplit,Nat.add_mul_div_left _ _ (zKs _),Nat.div_eq_of_lt hlow,Nat.zero_add]
  (have hi2 : i = 16 * (i / 16) + i % 16 := by omega);(conv => rhs;rw [hi2]);rw [Nat.pow_add,← Nat.div_div_eq_div_mul,hdiv,hd];obtain ⟨j,hj⟩ : ∃ j,16 = i % 16 + 1 + j := ⟨16 - (i % 16 + 1),by omega⟩
  have e16 : (65536 : Nat) = 2 ^ (i % 16) * (2 * 2 ^ j) := by
   rw [← Nat.mul_assoc,← Nat.pow_succ,← Nat.pow_add,← hj]
  rw [e16,Nat.mul_assoc,Nat.add_mul_div_left _ _ (Nat.two_pow_pos _),Nat.mul_assoc,Nat.add_mul_mod_self_left]
 unfold r1_Bit.f;have hsr := zHi a (i % 16) (by omega);have hdl : a / 2 ^ (i % 16) < 18446744073709551616 := Nat.lt_of_le_of_lt (Nat.div_le_self ..) (by omega)
 have hand : Go.bits .and .u64 ((a / 2 ^ (i % 16) : Nat) : Int) 1 = ((a / 2 ^ (i % 16) % 2 : Nat) : Int) := by
  have := zYZ (a / 2 ^ (i % 16)) 1 hdl (by decide);rw [show (1 : Nat) = 2 ^ 1 - 1 from rfl,Nat.and_two_pow_sub_one_eq_mod] at this;exact this
 rw [hq,hr,wrapB _ (by omega) (by omega),zXJ,Option.bind_some,u64_in _ (by omega),if_pos (by omega),ga,hsr,hand,hbit]
theorem zWQ (l : List Int) (hp : Digs l) : ∀ n : Nat,n ≤ 100000000 → valD l < 2 ^ n → ∃ L : Nat,L ≤ n ∧ LenIs (valD l) L ∧ Ev (fun k => r1_Len.l0 k l (n : Int)) (L : Int)
 | 0,_,h => by
  rw [Nat.pow_zero] at h;refine ⟨0,Nat.le_refl _,⟨fun _ => rfl,fun h0 => absurd (by omega) h0⟩,Ev.step (f := fun _ => some 0) (fun k => ?_) (Ev.now _)⟩;rw [r1_Len.l0,if_neg (by omega)]
  rfl
 | n + 1,hn,h => by
  (have hw : wrap64 (((n + 1 : Nat) : Int) - 1) = (n : Int) := by rw [wrapB _ (by omega) (by omega)];omega);have hb := zKg l hp n (by omega);(have hpw : (2 : Nat) ^ (n + 1) = 2 * 2 ^ n := by rw [Nat.pow_succ,Nat.mul_comm]);have hpos := Nat.two_pow_pos n
  have hdl : valD l / 2 ^ n < 2 := by
   rw [Nat.div_lt_iff_lt_mul hpos,← hpw];exact h
  by_cases h0 : valD l / 2 ^ n % 2 = 0
  ·have hlt : valD l < 2 ^ n := by
    have : valD l / 2 ^ n = 0 := zBE _ h0 hdl;exact (Nat.div_eq_zero_iff_lt hpos).1 this
   obtain ⟨L,h1,h2,h3⟩ := zWQ l hp n (by omega) hlt;refine ⟨L,by omega,h2,Ev.step (fun k => ?_) h3⟩;rw [r1_Len.l0,if_pos (by omega),hw,hb,Option.bind_some,if_pos (by rw [h0];rfl)]
  ·have hge : 2 ^ n ≤ valD l := by
    apply Nat.le_of_not_lt;intro hlt;rw [Nat.div_eq_of_lt hlt] at h0;exact h0 rfl
   refine ⟨n + 1,Nat.le_refl _,⟨fun h0' => by omega,fun _ => ⟨by omega,by rw [Nat.add_sub_cancel];exact hge,h⟩⟩,Ev.step (f := fun _ => some ((n + 1 : Nat) : Int)) (fun k => ?_) (Ev.now _)⟩;rw [r1_Len.l0,if_pos (by omega),hw,hb,Option.bind_some,if_neg (fun c => h0 (Int.natCast_eq_zero.1 c))]
theorem zZy (l : List Int) (hp : Digs l) (hl : l.length ≤ 1000000) : ∃ L : Nat,L ≤ 16 * l.length ∧ LenIs (valD l) L ∧ Ev (fun k => r1_Len.f k l) (L : Int) := by
 have hlt := zYC hp;rw [zXs] at hlt;obtain ⟨L,h1,h2,h3⟩ := zWQ l hp (16 * l.length) (by omega) hlt;refine ⟨L,h1,h2,Ev.congr (fun k => ?_) h3⟩;unfold r1_Len.f;rw [wrapB _ (by omega) (by omega)]
 rfl
theorem zKm : ∀ (L x : Nat),x < 65536 ^ L → (toD x).length ≤ L
 | 0,x,h => by
  have : x = 0 := by rw [Nat.pow_zero] at h;omega
  rw [this,zXf];exact Nat.le_refl _
 | L + 1,x,h => by
  by_cases h0 : x = 0
  ·rw [h0,zXf];exact Nat.zero_le _
  ·rw [zYb h0,List.length_cons]
   have : x / 65536 < 65536 ^ L := by
    rw [Nat.pow_succ] at h;exact Nat.div_lt_of_lt_mul (by rw [Nat.mul_comm];exact h)
   have := zKm L _ this;omega
theorem zXl {x m : Nat} (h : x < 2 ^ m) : (toD x).length ≤ m / 16 + 1 := by
 refine zKm _ _ (Nat.lt_of_lt_of_le h ?_);rw [zXs];exact Nat.pow_le_pow_right (by decide) (by omega)
theorem zWI (x : Nat) (h : x < 18446744073709551616) : r1_Small.f (toD x) = some (x : Int) := by
 have dig : ∀ i : Nat,(toD x).getD i 0 = ((x / 65536 ^ i % 65536 : Nat) : Int) := by
  have g : ∀ (i x : Nat),(toD x).getD i 0 = ((x / 65536 ^ i % 65536 : Nat) : Int) := by
   intro i
   induction i with
   | zero =>
    intro x;by_cases h0 : x = 0
    ·subst h0;rw [zXf];rfl
    ·rw [zYb h0,Nat.pow_zero,Nat.div_one];rfl
   | succ i ih =>
    intro x;by_cases h0 : x = 0
    ·subst h0;rw [zXf,Nat.zero_div];rfl
    ·rw [zYb h0,Nat.pow_succ,Nat.mul_comm,← Nat.div_div_eq_div_mul]
     exact ih _
  exact fun i => g i x
 unfold r1_Small.f;have a0 := zXJ (toD x) 0;have a1 := zXJ (toD x) 1;have a2 := zXJ (toD x) 2;have a3 := zXJ (toD x) 3;rw [dig] at a0 a1 a2 a3;rw [show ((0 : Int)) = ((0 : Nat) : Int) from rfl,show ((1 : Int)) = ((1 : Nat) : Int) from rfl,show ((2 : Int)) = ((2 : Nat) : Int) from rfl,show ((3 : Int)) = ((3 : Nat) : Int) from rfl,a0,Option.bind_some,a1,Option.bind_some,a2,Option.bind_some,a3,Option.bind_some];rw [show (65536 : Nat) ^ 0 = 1 from rfl,show (65536 : Nat) ^ 1 = 65536 from rfl,show (65536 : Nat) ^ 2 = 4294967296 from rfl,show (65536 : Nat) ^ 3 = 281474976710656 from rfl,Nat.div_one];obtain ⟨p,hp⟩ : ∃ p,p = x % 65536 := ⟨_,rfl⟩;obtain ⟨q,hq⟩ : ∃ q,q = x / 65536 % 65536 := ⟨_,rfl⟩;obtain ⟨r,hr⟩ : ∃ r,r = x / 4294967296 % 65536 := ⟨_,rfl⟩;obtain ⟨s,hs⟩ : ∃ s,s = x / 281474976710656 % 65536 := ⟨_,rfl⟩;rw [← hp,← hq,← hr,← hs];(have w1 : IntKind.u64.wrap ((q : Int) * 65536) = ((q * 65536 : Nat) : Int) := by rw [show ((q : Int) * 65536) = ((q * 65536 : Nat) : Int) by omega,u64_in _ (by omega)]);(have w2 : IntKind.u64.wrap ((r : Int) * 4294967296) = ((r * 4294967296 : Nat) : Int) := by rw [show ((r : Int) * 4294967296) = ((r * 4294967296 : Nat) : Int) by omega,u64_in _ (by omega)]);have w3 : IntKind.u64.wrap ((s : Int) * 281474976710656) = ((s * 281474976710656 : Nat) : Int) := by rw [show ((s : Int) * 281474976710656) = ((s * 281474976710656 : Nat) : Int) by omega,u64_in _ (by omega)]
 have orr : ∀ (n a b : Nat),a < 2 ^ n → a ||| b * 2 ^ n = a + b * 2 ^ n := by
  intro n a b h;have := Nat.two_pow_add_eq_or_of_lt (i := n) h b;rw [Nat.or_comm,Nat.mul_comm b,← this,Nat.add_comm]
 have o1 := orr 16 p q (by show p < 65536;omega);have o2 := orr 32 (p + q * 65536) r (by show p + q * 65536 < 4294967296;omega);have o3 := orr 48 (p + q * 65536 + r * 4294967296) s (by show p + q * 65536 + r * 4294967296 < 281474976710656;omega);rw [show (2 : Nat) ^ 16 = 65536 from rfl] at o1;rw [show (2 : Nat) ^ 32 = 4294967296 from rfl] at o2;rw [show (2 : Nat) ^ 48 = 281474976710656 from rfl] at o3;rw [w1,w2,w3,zYU _ _ (by omega) (by omega),o1,zYU _ _ (by omega) (by omega),o2,zYU _ _ (by omega) (by omega),o3]
 congr 2
 omega
theorem zJj (l : List Int) (hp : Digs l) (lost : Bool) (out : List Int) (i : Nat) (hi : i ≤ 50000000) (r : List Int × Bool)
  (hend : Ev (fun k => if out.length < 17592186044416 then r1_Down.l1 k l lost (out ++ [((valD l / 2 ^ i % 65536 : Nat) : Int)]) (wrap64 ((i : Int) + 16)) else none) r) : ∀ (d t : Nat),t + d = 16 →
  Ev (fun k => r1_Down.l2 k l lost out (i : Int) ((valD l / 2 ^ i % 2 ^ t : Nat) : Int) (t : Int)) r
 | 0,t,ht => by
  (obtain rfl : t = 16 := by omega);refine Ev.step (fun k => ?_) hend;rw [r1_Down.l2,if_neg (by decide)]
 | d + 1,t,ht => by
  have ih := zJj l hp lost out i hi r hend d (t + 1) (by omega);refine Ev.step (fun k => ?_) ih;(have b1 : i + t ≤ 1000000000 := by omega);have hbit := zKg l hp (i + t) (by omega);obtain ⟨x,hx⟩ : ∃ x,x = valD l / 2 ^ i := ⟨_,rfl⟩;(have hsh : valD l / 2 ^ (i + t) = x / 2 ^ t := by rw [Nat.pow_add,← Nat.div_div_eq_div_mul,hx]);rw [hsh] at hbit;rw [← hx];have hb2 : x / 2 ^ t % 2 < 2 := Nat.mod_lt _ (by decide);have hT : 2 ^ t < 65536 := Nat.lt_of_lt_of_le (Nat.pow_lt_pow_right (by decide) (show t < 16 by omega)) (Nat.le_refl _);have hm : x % 2 ^ t < 2 ^ t := Nat.mod_lt _ (Nat.two_pow_pos t)
  have hmul : x / 2 ^ t % 2 * 2 ^ t < 131072 := by
   have : x / 2 ^ t % 2 * 2 ^ t ≤ 1 * 2 ^ t := Nat.mul_le_mul_right _ (by omega);omega
  have hshl : shl .u64 ((x / 2 ^ t % 2 : Nat) : Int) (t : Int) = ((x / 2 ^ t % 2 * 2 ^ t : Nat) : Int) := by
   rw [zJw _ _ (by omega),Nat.mod_eq_of_lt (Nat.lt_of_lt_of_le hmul (by decide))]
  have hor : x % 2 ^ t ||| x / 2 ^ t % 2 * 2 ^ t = x % 2 ^ (t + 1) := by
   have := Nat.two_pow_add_eq_or_of_lt (i := t) hm (x / 2 ^ t % 2);rw [Nat.or_comm,Nat.mul_comm,← this,Nat.pow_succ,Nat.mod_mul,Nat.add_comm]
  have h1 : x % 2 ^ t < 18446744073709551616 := Nat.lt_of_lt_of_le hm (Nat.le_trans (Nat.le_of_lt hT) (by decide));have h2 : x / 2 ^ t % 2 * 2 ^ t < 18446744073709551616 := Nat.lt_of_lt_of_le hmul (by decide);rw [r1_Down.l2,if_pos (by omega),wrap_add i t b1,hbit,Option.bind_some,u64_in t (by omega),if_pos (by omega),hshl,zYU _ _ h1 h2,hor,zYy t (by omega)]
theorem zVx (l : List Int) (hp : Digs l) (hl : l.length ≤ 1000000) (n : Nat) (hn : n ≤ 10000000) (lost : Bool) : ∀ (d q : Nat) (out : List Int),16 * l.length ≤ n + 16 * (q + d) → q ≤ 1000000 → q + d ≤ 1000001 → out.length = q → Digs out → valD out = valD l / 2 ^ n % 65536 ^ q →
  (q = 0 ∨ n + 16 * (q - 1) < 16 * l.length) →
  Ev (fun k => r1_Down.l1 k l lost out ((n + 16 * q : Nat) : Int)) (toD (valD l / 2 ^ n),lost) := by
 intro d
 induction d with
 | zero =>
  intro q out h1 h2 h2' h3 h4 h5 h6
  have hlt : valD l / 2 ^ n < 65536 ^ q := by
   rw [Nat.div_lt_iff_lt_mul (Nat.two_pow_pos n),zXs,← Nat.pow_add];have := zYC hp;rw [zXs] at this;exact Nat.lt_of_lt_of_le this (Nat.pow_le_pow_right (by decide) (by omega))
  rw [Nat.mod_eq_of_lt hlt] at h5;have ht := zYF out h4 (by omega);rw [h5] at ht;refine Ev.step (fun k => ?_) (Ev.bind (f := fun _ t => some (t,lost)) ht (Ev.now _));rw [r1_Down.l1,wrapB (16 * _) (by omega) (by omega),if_neg (by omega)]
 | succ d ih =>
  intro q out h1 h2 h2' h3 h4 h5 h6;by_cases hc : n + 16 * q < 16 * l.length
  ·have hnext := ih (q + 1) (out ++ [((valD l / 2 ^ (n + 16 * q) % 65536 : Nat) : Int)]) (by omega) (by omega) (by omega) (by rw [List.length_append,List.length_singleton];omega) (zYc h4 (zXX ⟨Int.natCast_nonneg _,Int.ofNat_lt.2 (Nat.mod_lt _ (by decide))⟩)) (by
     rw [zXk,h3,h5,Nat.pow_add,← Nat.div_div_eq_div_mul,zXs q];simp only [valD,Nat.mul_zero,Nat.add_zero,Int.toNat_natCast]
     rw [← zXs,Nat.pow_succ,Nat.mod_mul]) (.inr (by omega))
   have hend : Ev (fun k => if out.length < 17592186044416 then r1_Down.l1 k l lost (out ++ [((valD l / 2 ^ (n + 16 * q) % 65536 : Nat) : Int)]) (wrap64 (((n + 16 * q : Nat) : Int) + 16)) else none) (toD (valD l / 2 ^ n),lost) := by
    refine Ev.congr (fun k => ?_) hnext;rw [if_pos (by omega),wrapB _ (by omega) (by omega)]
    congr 1
   have hb := zJj l hp lost out (n + 16 * q) (by omega) _ hend 16 0 (by omega);rw [Nat.pow_zero,Nat.mod_one] at hb;refine Ev.step (fun k => ?_) hb;rw [r1_Down.l1,wrapB (16 * _) (by omega) (by omega),if_pos (by omega)]
   rfl
  ·
   have hlt : valD l / 2 ^ n < 65536 ^ q := by
    rw [Nat.div_lt_iff_lt_mul (Nat.two_pow_pos n),zXs,← Nat.pow_add];have := zYC hp;rw [zXs] at this;exact Nat.lt_of_lt_of_le this (Nat.pow_le_pow_right (by decide) (by omega))
   rw [Nat.mod_eq_of_lt hlt] at h5;have ht := zYF out h4 (by omega);rw [h5] at ht;refine Ev.step (fun k => ?_) (Ev.bind (f := fun _ t => some (t,lost)) ht (Ev.now _));rw [r1_Down.l1,wrapB (16 * _) (by omega) (by omega),if_neg (by omega)]
theorem zJf (l : List Int) (hp : Digs l) (hl : l.length ≤ 1000000) (n : Nat) (hn : n ≤ 10000000) : ∀ (d i : Nat),i + d = min n (16 * l.length) →
  Ev (fun k => r1_Down.l0 k l (n : Int) (decide (valD l % 2 ^ i ≠ 0)) (i : Int)) (toD (valD l / 2 ^ n),decide (valD l % 2 ^ n ≠ 0))
 | 0,i,hi => by
  have hlost : decide (valD l % 2 ^ i ≠ 0) = decide (valD l % 2 ^ n ≠ 0) := by
   by_cases h : n ≤ 16 * l.length
   ·rw [show i = n by omega]
   ·have hv := zYC hp;rw [zXs] at hv;rw [Nat.mod_eq_of_lt (Nat.lt_of_lt_of_le hv (Nat.pow_le_pow_right (by decide) (by omega))),Nat.mod_eq_of_lt (Nat.lt_of_lt_of_le hv (Nat.pow_le_pow_right (by decide) (by omega)))]
  rw [hlost];have hd := zVx l hp hl n hn (decide (valD l % 2 ^ n ≠ 0)) (1000001 - 1) 0 [] (by omega) (by omega) (by omega) rfl (fun y hy => by cases hy) (by rw [Nat.pow_zero,Nat.mod_one];rfl) (.inl rfl);rw [Nat.mul_zero,Nat.add_zero] at hd;have hj : Ev (fun k => r1_Down.j1 k l (n : Int) (decide (valD l % 2 ^ n ≠ 0))) (toD (valD l / 2 ^ n),decide (valD l % 2 ^ n ≠ 0)) := Ev.step (fun k => by rw [r1_Down.j1]) hd;refine Ev.step (fun k => ?_) hj;rw [r1_Down.l0];by_cases h : (i : Int) < (n : Int)
  ·rw [if_pos h,wrapB (16 * _) (by omega) (by omega),if_neg (by omega)]
  ·rw [if_neg h]
 | d + 1,i,hi => by
  have ih := zJf l hp hl n hn d (i + 1) (by omega);have hbit := zKg l hp i (by omega);(have hs : valD l % 2 ^ (i + 1) = valD l % 2 ^ i + 2 ^ i * (valD l / 2 ^ i % 2) := by rw [Nat.pow_succ,Nat.mod_mul]);refine Ev.step (fun k => ?_) ih;rw [r1_Down.l0,if_pos (by omega),wrapB (16 * _) (by omega) (by omega),if_pos (by omega)];by_cases h : valD l % 2 ^ i ≠ 0
  ·rw [decide_eq_true h,if_pos rfl,zYy i (by omega),decide_eq_true (by rw [hs];omega)]
  ·rw [decide_eq_false h,if_neg (by decide),hbit,Option.bind_some,zYy i (by omega)]
   congr 1
   rw [hs];have h0 : valD l % 2 ^ i = 0 := Decidable.not_not.1 h;rw [h0,Nat.zero_add];have hm : valD l / 2 ^ i % 2 < 2 := Nat.mod_lt _ (by decide);obtain ⟨b,hb⟩ : ∃ b,b = valD l / 2 ^ i % 2 := ⟨_,rfl⟩;rw [← hb] at hm ⊢;have hpos := Nat.two_pow_pos i;rcases (show b = 0 ∨ b = 1 by omega) with e | e
   ·subst e;rw [Nat.mul_zero];rfl
   ·subst e;rw [Nat.mul_one,decide_eq_true (by omega)];rfl
theorem zGa (l : List Int) (hp : Digs l) (hl : l.length ≤ 1000000) (n : Nat) (hn : n ≤ 10000000) : Ev (fun k => r1_Down.f k l (n : Int)) (toD (valD l / 2 ^ n),decide (valD l % 2 ^ n ≠ 0)) := by
 have h := zJf l hp hl n hn (min n (16 * l.length)) 0 (by omega);rw [Nat.pow_zero,Nat.mod_one] at h;exact h
end Go.Proofs.YtflcanpajgpghaaGreatDoor.Pure
end
section
namespace Go.Proofs.YtflcanpajgpghaaGreatDoor.Pure
open Go.RowKit Go.Proofs.YtflcanpajgpghaaGreatDoor.Pr Go.Proofs.YtflcanpajgpghaaGreatDoorW.PrintWords Go.Proofs.YtflcanpajgpghaaGreatDoorW.PrintLast Go.Proofs.YtflcanpajgpghaaGreatDoorW.PrintMore Go.Proofs.YtflcanpajgpghaaGreatDoor.Flo
theorem zWn {x L m : Nat} (h : LenIs x L) (hm : x < 2 ^ m) : L ≤ m := by
 by_cases h0 : x = 0
 ·rw [h.1 h0];exact Nat.zero_le _
 ·obtain ⟨_,h2,_⟩ := h.2 h0;apply Nat.le_of_not_lt;intro hlt;have : 2 ^ m ≤ 2 ^ (L - 1) := Nat.pow_le_pow_right (by decide) (by omega);omega
theorem zHk (q : List Int) (hq : Digs q) (i t : Nat) (hi : i / 16 < q.length) (hv : valD q = 2 ^ (i + 1) * t) : ∃ a : Nat,q.getD (i / 16) 0 = (a : Int) ∧ a + 2 ^ (i % 16) < 65536 ∧ Go.bits .or .u64 (a : Int) (shl .u64 1 ((i % 16 : Nat) : Int)) = ((a + 2 ^ (i % 16) : Nat) : Int) ∧
  valD (q.set (i / 16) ((a + 2 ^ (i % 16) : Nat) : Int)) = 2 ^ i * (2 * t + 1) := by
 obtain ⟨a,ga,ha2,hd,_⟩ := zYz q (i / 16) hq;have hrl : i % 16 < 16 := Nat.mod_lt _ (by decide)
 have hsplit : valD q = valD (q.take (i / 16)) + 65536 ^ (i / 16) * valD (q.drop (i / 16)) := by
  have := zXk (q.take (i / 16)) (q.drop (i / 16));rw [List.take_append_drop,List.length_take,Nat.min_eq_left (Nat.le_of_lt hi)] at this;exact this
 have hlow := zXQ hq (i / 16);have hi2 : i + 1 = 16 * (i / 16) + (i % 16 + 1) := by omega
 have hmul : valD q / 65536 ^ (i / 16) = 2 ^ (i % 16 + 1) * t := by
  rw [hv,hi2,Nat.pow_add,← zXs,Nat.mul_assoc,Nat.mul_div_cancel_left _ (zKs _)]
 rw [hsplit,Nat.add_mul_div_left _ _ (zKs _),Nat.div_eq_of_lt hlow,Nat.zero_add,hd] at hmul;obtain ⟨j,hj⟩ : ∃ j,16 = i % 16 + 1 + j := ⟨16 - (i % 16 + 1),by omega⟩;have e16 : (65536 : Nat) = 2 ^ (i % 16 + 1) * 2 ^ j := by rw [← Nat.pow_add,← hj]
 have hamod : a % 2 ^ (i % 16 + 1) = 0 := by
  (have h1 : (a + 65536 * valD (q.drop (i / 16 + 1))) % 2 ^ (i % 16 + 1) = 0 := by rw [hmul,Nat.mul_mod_right]);rw [e16,Nat.mul_assoc,Nat.add_mul_mod_self_left] at h1;exact h1
 obtain ⟨s,hs⟩ : ∃ s,a = 2 ^ (i % 16 + 1) * s := ⟨a / 2 ^ (i % 16 + 1),by
  have := Nat.div_add_mod a (2 ^ (i % 16 + 1));rw [hamod,Nat.add_zero] at this
  exact this.symm⟩
 have hp2 : 2 ^ (i % 16) < 2 ^ (i % 16 + 1) := Nat.pow_lt_pow_right (by decide) (by omega)
 have hbound : a + 2 ^ (i % 16) < 65536 := by
  have h1 : s < 2 ^ j := by
   rw [hs,e16] at ha2;exact Nat.lt_of_mul_lt_mul_left ha2
  have h2 : 2 ^ (i % 16 + 1) * (s + 1) ≤ 2 ^ (i % 16 + 1) * 2 ^ j := Nat.mul_le_mul_left _ h1;rw [Nat.mul_succ,← e16,← hs] at h2;omega
 have hp3 : 2 ^ (i % 16) < 65536 := by omega
 have hsh : shl .u64 1 ((i % 16 : Nat) : Int) = ((2 ^ (i % 16) : Nat) : Int) := by
  have h9 := zJw 1 (i % 16) (by omega);rw [Nat.one_mul,Nat.mod_eq_of_lt (Nat.lt_of_lt_of_le hp3 (by decide))] at h9;exact h9
 refine ⟨a,ga,hbound,?_,?_⟩
 ·rw [hsh,zYU _ _ (by omega) (by omega),hs,or_bit]
 ·have := zWb q (i / 16) (a + 2 ^ (i % 16)) hi a ga;rw [Nat.mul_add,hv] at this
  have e : 65536 ^ (i / 16) * 2 ^ (i % 16) = 2 ^ i := by
   rw [zXs,← Nat.pow_add]
   congr 1
   omega
  rw [e] at this;(have e2 : 2 ^ (i + 1) * t = 2 ^ i * (2 * t) := by rw [Nat.pow_succ,Nat.mul_assoc]);rw [e2] at this;rw [Nat.mul_succ];omega
theorem zWr (l b : List Int) (hp : Digs l) (hb : Digs b) (hb0 : valD b ≠ 0) (hl : l.length ≤ 100000) (hbl : b.length ≤ 100000) : ∀ (i : Nat) (q : List Int) (r t : Nat),i ≤ 16 * l.length → q.length = l.length → Digs q → valD q = 2 ^ i * t → valD l / 2 ^ i = t * valD b + r → r < valD b →
  Ev (fun k => r1_Divide.l0 k l b q (toD r) ((i : Int) - 1)) (toD (valD l / valD b),toD (valD l % valD b))
 | 0,q,r,t,hi,hql,hq,hv,hdiv,hr => by
  rw [Nat.pow_zero,Nat.div_one] at hdiv;rw [Nat.pow_zero,Nat.one_mul] at hv;have hpos : 0 < valD b := Nat.pos_of_ne_zero hb0;(have e1 : valD l / valD b = t := by rw [hdiv,Nat.mul_comm t,Nat.mul_add_div hpos,Nat.div_eq_of_lt hr,Nat.add_zero]);(have e2 : valD l % valD b = r := by rw [hdiv,Nat.mul_comm t,Nat.mul_add_mod,Nat.mod_eq_of_lt hr]);rw [e1,e2];have ht := zYF q hq (by omega);rw [hv] at ht;refine Ev.step (fun k => ?_) (Ev.bind (f := fun _ u => some (u,toD r)) ht (Ev.now _));rw [r1_Divide.l0,if_neg (by omega)]
 | i + 1,q,r,t,hi,hql,hq,hv,hdiv,hr => by
  have hrl : (toD r).length ≤ b.length := zKm _ _ (Nat.lt_trans hr (zYC hb));have hup := zKL (toD r) (zQK r) 1 (by omega);rw [zQP,Nat.pow_one] at hup;have hbit := zKg l hp i (by omega);obtain ⟨c,hc⟩ : ∃ c,c = valD l / 2 ^ i % 2 := ⟨_,rfl⟩;rw [← hc] at hbit;(have hc2 : c < 2 := by rw [hc];exact Nat.mod_lt _ (by decide));have hone : Digs [(c : Int)] := zXX (by omega)
  have h2l : (toD (r * 2)).length ≤ b.length + 1 := by
   refine zKm _ _ ?_
   rw [Nat.pow_succ];exact Nat.mul_lt_mul_of_lt_of_le (Nat.lt_trans hr (zYC hb)) (by decide) (by decide)
  have hsum := zJz (toD (r * 2)) [(c : Int)] (zQK _) hone (by omega) (show 1 ≤ 900000 by decide);(have hvone : valD [(c : Int)] = c := by simp [valD]);rw [zQP,hvone] at hsum
  have h3l : (toD (r * 2 + c)).length ≤ b.length + 1 := by
   refine zKm _ _ ?_
   rw [Nat.pow_succ];have h1 := Nat.lt_trans hr (zYC hb);have h2 : (r + 1) * 2 ≤ 65536 ^ b.length * 65536 := Nat.mul_le_mul h1 (by decide);omega
  obtain ⟨o,ho,ho1⟩ := zJD (toD (r * 2 + c)) b (zQK _) hb (by omega) (by omega);rw [zQP] at ho1
  have hdiv2 : valD l / 2 ^ i = 2 * (t * valD b + r) + c := by
   (have h1 : valD l / 2 ^ i / 2 = valD l / 2 ^ (i + 1) := by rw [Nat.div_div_eq_div_mul,Nat.pow_succ]);rw [hdiv] at h1;omega
  (have hk : ((i + 1 : Nat) : Int) - 1 = (i : Int) := by omega);have hwi : wrap64 ((i : Int) - 1) = (i : Int) - 1 := wrapB _ (by omega) (by omega);(have hq16 : wrap64 (Int.tdiv (i : Int) 16) = ((i / 16 : Nat) : Int) := by rw [Int.tdiv_eq_ediv_of_nonneg (by omega),wrapB _ (by omega) (by omega)];omega);(have hr16 : IntKind.u64.wrap (Int.tmod (i : Int) 16) = ((i % 16 : Nat) : Int) := by rw [Int.tmod_eq_emod_of_nonneg (by omega),show ((i : Int) % 16) = ((i % 16 : Nat) : Int) by omega,u64_in _ (by omega)]);(have hin : i / 16 < q.length := by rw [hql];exact Nat.div_lt_of_lt_mul (by omega));by_cases hge : o ≥ 0
  ·have hle := ho1.1 hge;have hmin := zBX (toD (r * 2 + c)) b (zQK _) hb (by omega) (by rw [zQP];exact hle);rw [zQP] at hmin;obtain ⟨a,ga,ha2,hor,hval⟩ := zHk q hq i t hin hv
   have ih := zWr l b hp hb hb0 hl hbl i (q.set (i / 16) ((a + 2 ^ (i % 16) : Nat) : Int)) (r * 2 + c - valD b) (2 * t + 1) (by omega) (by rw [List.length_set];exact hql) (zWs hq _ ⟨Int.natCast_nonneg _,Int.ofNat_lt.2 ha2⟩) hval
    (by rw [hdiv2,Nat.add_mul,Nat.one_mul,Nat.mul_assoc];omega) (by omega)
   have q2 : (0 : Int) ≤ ((i / 16 : Nat) : Int) := Int.natCast_nonneg _
   have q3 : ((i / 16 : Nat) : Int) < ((q.length : Nat) : Int) := Int.ofNat_lt.2 hin
   have q4 : (0 : Int) ≤ ((i % 16 : Nat) : Int) := Int.natCast_nonneg _
   have q5 : (0 : Int) ≤ ((i : Nat) : Int) := Int.natCast_nonneg _
   refine Ev.step (fun k => ?_) (Ev.bind hup (f := fun k t567 => (r1_Sum.f k t567 [(c : Int)]).bind fun t574 => (r1_Cmp.f k t574 b).bind fun t577 => if t577 ≥ 0 then ((r1_Minus.f k t574 b).bind fun t578 => r1_Divide.l0 k l b (q.set (i / 16) ((a + 2 ^ (i % 16) : Nat) : Int)) t578 ((i : Int) - 1)) else r1_Divide.l0 k l b q t574 ((i : Int) - 1))
    (Ev.bind hsum (Ev.bind ho (Ev.congr (fun k => if_pos hge) (Ev.bind hmin (f := fun k t578 => r1_Divide.l0 k l b (q.set (i / 16) ((a + 2 ^ (i % 16) : Nat) : Int)) t578 ((i : Int) - 1)) ih)))))
   rw [hk,r1_Divide.l0,if_pos q5,hbit,hwi,hq16,hr16];simp only [Option.bind_some,if_pos q2,if_pos q3,if_pos q4,Int.toNat_natCast,zYg,ga,hor]
   rfl
  ·have hlt : r * 2 + c < valD b := by
    apply Nat.lt_of_not_le;intro hle;exact hge (ho1.2 hle)
   have ih := zWr l b hp hb hb0 hl hbl i q (r * 2 + c) (2 * t) (by omega) hql hq (by rw [hv,Nat.pow_succ,Nat.mul_assoc])
    (by rw [hdiv2,Nat.mul_assoc];omega) hlt
   have q5 : (0 : Int) ≤ ((i : Nat) : Int) := Int.natCast_nonneg _
   refine Ev.step (fun k => ?_) (Ev.bind hup (f := fun k t567 => (r1_Sum.f k t567 [(c : Int)]).bind fun t574 => (r1_Cmp.f k t574 b).bind fun t577 => if t577 ≥ 0 then ((r1_Minus.f k t574 b).bind fun t578 => if 0 ≤ ((i / 16 : Nat) : Int) then (if ((i / 16 : Nat) : Int) < ((q.length : Nat) : Int) then (if 0 ≤ ((i % 16 : Nat) : Int) then r1_Divide.l0 k l b (q.set ((i / 16 : Nat) : Int).toNat (Go.bits .or .u64 (rd q ((i / 16 : Nat) : Int)) (shl .u64 1 ((i % 16 : Nat) : Int)))) t578 ((i : Int) - 1) else none) else none) else none) else r1_Divide.l0 k l b q t574 ((i : Int) - 1))
    (Ev.bind hsum (Ev.bind ho (Ev.congr (fun k => if_neg hge) ih))))
   rw [hk,r1_Divide.l0,if_pos q5,hbit,hwi,hq16,hr16];simp only [Option.bind_some]
   rfl
theorem zWk (l b : List Int) (hp : Digs l) (hb : Digs b) (hb0 : valD b ≠ 0) (hl : l.length ≤ 100000) (hbl : b.length ≤ 100000) : Ev (fun k => r1_Divide.f k l b) (toD (valD l / valD b),toD (valD l % valD b)) := by
 obtain ⟨L,h1,h2,h3⟩ := zZy l hp (by omega);have hlt := zGm h2;have hz : valD l / 2 ^ L = 0 := Nat.div_eq_of_lt hlt;have h := zWr l b hp hb hb0 hl hbl L (List.replicate l.length 0) 0 0 h1 (List.length_replicate ..) (zZu _) (by rw [zZf,Nat.mul_zero]) (by rw [hz,Nat.zero_mul]) (Nat.pos_of_ne_zero hb0);rw [zXf] at h
 have q1 : (0 : Int) ≤ ((l.length : Nat) : Int) := Int.natCast_nonneg _
 refine Ev.congr (fun k => ?_) (Ev.bind h3 (f := fun k t => r1_Divide.l0 k l b (List.replicate l.length 0) [] (wrap64 (t - 1))) (Ev.congr (fun k => by rw [wrapB _ (by omega) (by omega)]) h));unfold r1_Divide.f;rw [if_pos q1,Int.toNat_natCast,if_pos (by omega)]
theorem zKR (l m : List Int) (hp : Digs l) (hm : Digs m) : ∀ i : Nat,i ≤ 900000 → ∃ c : Int,Ev (fun k => r1_Cmp.l0 k l m ((i : Int) - 1)) c ∧ (c < 0 ↔ valD (l.take i) < valD (m.take i)) ∧ (c = 0 ↔ valD (l.take i) = valD (m.take i))
 | 0,_ => by
  refine ⟨0,Ev.step (f := fun _ => some 0) (fun k => ?_) (Ev.now _),by simp [valD],by simp [valD]⟩;rw [r1_Cmp.l0,if_neg (by omega)]
 | i + 1,hi => by
  obtain ⟨a,ga,ha2,ha3⟩ := getDD hp i;obtain ⟨b,gb,hb2,hb3⟩ := getDD hm i
  have tk : ∀ (l : List Int) (a : Nat),l.getD i 0 = (a : Int) → (l.length ≤ i → a = 0) → valD (l.take (i + 1)) = valD (l.take i) + 65536 ^ i * a := by
   intro l a g g0;by_cases h : i < l.length
   ·rw [zYN h,g,Int.toNat_natCast]
   ·rw [List.take_of_length_le (by omega),List.take_of_length_le (by omega),g0 (by omega),Nat.mul_zero,Nat.add_zero]
  have e1 := tk l a ga ha3;have e2 := tk m b gb hb3;have t1 := zXQ hp i;have t2 := zXQ hm i;(have hk : ((i + 1 : Nat) : Int) - 1 = (i : Int) := by omega);rw [hk,e1,e2];obtain ⟨P,hP⟩ : ∃ P,P = 65536 ^ i := ⟨_,rfl⟩;rw [← hP] at t1 t2 ⊢;by_cases hlt : a < b
  ·refine ⟨-1,Ev.step (f := fun _ => some (-1)) (fun k => ?_) (Ev.now _),?_⟩
   ·rw [r1_Cmp.l0,if_pos (by omega),zXJ,Option.bind_some,zXJ,Option.bind_some,ga,gb,if_pos (by omega)]
   ·have : P * (a + 1) ≤ P * b := Nat.mul_le_mul_left _ hlt;rw [Nat.mul_succ] at this;constructor <;> omega
  ·by_cases hgt : b < a
   ·refine ⟨1,Ev.step (f := fun _ => some 1) (fun k => ?_) (Ev.now _),?_⟩
    ·rw [r1_Cmp.l0,if_pos (by omega),zXJ,Option.bind_some,zXJ,Option.bind_some,ga,gb,if_neg (by omega)];simp only [Option.bind_some];rw [if_pos (by omega)]
    ·have : P * (b + 1) ≤ P * a := Nat.mul_le_mul_left _ hgt;rw [Nat.mul_succ] at this;constructor <;> omega
   ·(obtain rfl : a = b := by omega);obtain ⟨c,hc,c1,c2⟩ := zKR l m hp hm i (by omega);refine ⟨c,Ev.step (fun k => ?_) hc,?_,?_⟩
    ·rw [r1_Cmp.l0,if_pos (by omega),zXJ,Option.bind_some,zXJ,Option.bind_some,ga,gb,if_neg (by omega)];simp only [Option.bind_some];rw [if_neg (by omega),wrapB _ (by omega) (by omega)]
    ·rw [c1];omega
    ·rw [c2];omega
theorem zGb (l m : List Int) (hp : Digs l) (hm : Digs m) (hl : l.length ≤ 900000) (hml : m.length ≤ 900000) : ∃ c : Int,Ev (fun k => r1_Cmp.f k l m) c ∧ (c < 0 ↔ valD l < valD m) ∧ (c = 0 ↔ valD l = valD m) := by
 obtain ⟨c,hc,c1,c2⟩ := zKR l m hp hm (max l.length m.length) (by omega);rw [List.take_of_length_le (by omega),List.take_of_length_le (by omega)] at c1 c2;refine ⟨c,Ev.congr (fun k => ?_) hc,c1,c2⟩;unfold r1_Cmp.f;rw [zZO,Option.bind_some,wrapB _ (by omega) (by omega)]
theorem zVW (M : Nat) (hMM : M ≤ 100000) : ∀ (n a p : Nat),n ≤ 1000000 → 1 ≤ a → 1 ≤ p → a * p ^ (2 * n) < 2 ^ M → Ev (fun k => r5_Ten.l0 k (n : Int) (toD a) (toD p)) (toD (a * p ^ n)) := by
 intro n
 induction n using Nat.strongRecOn with
 | _ n ih =>
  intro a p hn ha hp hM;by_cases h0 : n = 0
  ·subst h0;rw [Nat.pow_zero,Nat.mul_one];refine Ev.step (f := fun _ => some (toD a)) (fun k => ?_) (Ev.now _);rw [r5_Ten.l0,if_neg (by omega)]
  ·have hpp : p ≤ p ^ (2 * n) := by
    have := Nat.pow_le_pow_right hp (show 1 ≤ 2 * n by omega)
    rwa [Nat.pow_one] at this
   have hp1 : 1 ≤ p ^ (2 * n) := Nat.pow_pos hp;have haM : a < 2 ^ M := Nat.lt_of_le_of_lt (Nat.le_mul_of_pos_right _ hp1) hM;have hpM : p < 2 ^ M := Nat.lt_of_le_of_lt (Nat.le_trans hpp (Nat.le_mul_of_pos_left _ ha)) hM;have la := zXl haM;have lp := zXl hpM;have hsq := zYo (toD p) (toD p) (zQK _) (zQK _) (by omega) (by omega);rw [zQP] at hsq;have hap := zYo (toD a) (toD p) (zQK _) (zQK _) (by omega) (by omega);rw [zQP,zQP] at hap;(have hw : wrap64 (Int.tdiv (n : Int) 2) = ((n / 2 : Nat) : Int) := by rw [Int.tdiv_eq_ediv_of_nonneg (by omega),wrapB _ (by omega) (by omega)];omega);(have hm : Int.tmod (n : Int) 2 = ((n % 2 : Nat) : Int) := by rw [Int.tmod_eq_emod_of_nonneg (by omega)];omega);(have hp2 : ∀ z,(p * p) ^ z = p ^ (2 * z) := fun z => by rw [Nat.pow_mul,Nat.pow_two]);by_cases ho : n % 2 = 1
   ·have g := ih (n / 2) (by omega) (a * p) (p * p) (by omega) (Nat.mul_pos ha hp) (Nat.mul_pos hp hp) (by
      rw [hp2,Nat.mul_assoc,← Nat.pow_succ']
      exact Nat.lt_of_le_of_lt (Nat.mul_le_mul_left _ (Nat.pow_le_pow_right hp (by omega))) hM)
    have e : a * p * (p * p) ^ (n / 2) = a * p ^ n := by
     rw [hp2,Nat.mul_assoc,← Nat.pow_succ']
     congr 2
     omega
    rw [e] at g;refine Ev.step (fun k => ?_) (Ev.bind hap (f := fun k t529 => (r1_Product.f k (toD p) (toD p)).bind fun t532 => r5_Ten.l0 k ((n / 2 : Nat) : Int) t529 t532) (Ev.bind hsq g));rw [r5_Ten.l0,if_pos (by omega),hm,if_pos (by rw [ho];rfl),hw]
   ·have ho' : ¬ ((n % 2 : Nat) : Int) = 1 := by omega
    have g := ih (n / 2) (by omega) a (p * p) (by omega) ha (Nat.mul_pos hp hp) (by
      rw [hp2]
      exact Nat.lt_of_le_of_lt (Nat.mul_le_mul_left _ (Nat.pow_le_pow_right hp (by omega))) hM)
    have e : a * (p * p) ^ (n / 2) = a * p ^ n := by
     rw [hp2]
     congr 2
     omega
    rw [e] at g;refine Ev.step (fun k => ?_) (Ev.bind hsq (f := fun k t535 => r5_Ten.l0 k ((n / 2 : Nat) : Int) (toD a) t535) g);rw [r5_Ten.l0,if_pos (by omega),hm,if_neg ho',hw]
theorem zKK (n : Nat) (hn : n ≤ 2000) : Ev (fun k => r5_Ten.f k (n : Int)) (toD (10 ^ n)) := by
 have h := zVW (4 * (2 * n) + 1) (by omega) n 1 10 (by omega) (by decide) (by decide) (by
  rw [Nat.one_mul]
  exact zYK (2 * n))
 rw [Nat.one_mul] at h;(have h1 : toD 1 = [1] := by rw [zYb (by decide)];show (1 : Int) :: toD 0 = [1];rw [zXf]);(have h10 : toD 10 = [10] := by rw [zYb (by decide)];show (10 : Int) :: toD 0 = [10];rw [zXf]);rw [h1,h10] at h;exact h
theorem zKE (s : ByteArray) (hs : zXO s) (hsz : s.size ≤ 1000) : ∀ d i : Nat,i + d = s.size → Ev (fun k => r5_Whole.l0 k s (toD (dval s i)) (i : Int)) (toD (dval s s.size))
 | 0,i,hi => by
  (obtain rfl : i = s.size := by omega);refine Ev.step (f := fun _ => some (toD (dval s s.size))) (fun k => ?_) (Ev.now _);rw [r5_Whole.l0,if_neg (by omega)]
 | d + 1,i,hi => by
  have ih := zKE s hs hsz d (i + 1) (by omega);have hb := hs i (by omega);have hlt : dval s i < 2 ^ (4 * i + 1) := Nat.lt_trans (zJI s hs i (by omega)) (zYK i);(have hlt2 : dval s i * 10 < 2 ^ (4 * i + 1 + 4) := by rw [Nat.pow_add];exact Nat.mul_lt_mul_of_lt_of_le hlt (by decide) (by decide));have l1 := zXl hlt;have l2 := zXl hlt2;have hten : Digs [(10 : Int)] := zXX (by omega);have hdig : Digs [((bt s (i : Int) - 48).toNat : Int)] := zXX (by omega);have hpr := zYo (toD (dval s i)) [10] (zQK _) hten (by omega) (show 1 ≤ 400000 by decide);rw [zQP,show valD [(10 : Int)] = 10 from rfl] at hpr;have hsu := zJz (toD (dval s i * 10)) [((bt s (i : Int) - 48).toNat : Int)] (zQK _) hdig (by omega) (show 1 ≤ 900000 by decide);rw [zQP,show valD [((bt s (i : Int) - 48).toNat : Int)] = (bt s (i : Int) - 48).toNat by rw [valD,valD,Int.toNat_natCast,Nat.mul_zero,Nat.add_zero]] at hsu;(have hbt : (bt s (i : Int) - 48) % 256 = (((bt s (i : Int) - 48).toNat : Nat) : Int) := by omega);refine Ev.step (fun k => ?_) (Ev.bind hpr (f := fun k t463 => (r1_Sum.f k t463 [((bt s (i : Int) - 48).toNat : Int)]).bind fun t469 => r5_Whole.l0 k s t469 ((i + 1 : Nat) : Int)) (Ev.bind hsu ih));rw [r5_Whole.l0,if_pos (by omega),hbt,zYy i (by omega)]
  have q : (0 : Int) ≤ (i : Int) := Int.natCast_nonneg _
  simp only [if_pos q]
theorem zVT (s : ByteArray) (hs : zXO s) (hsz : s.size ≤ 1000) : Ev (fun k => r5_Whole.f k s) (toD (dval s s.size)) := by
 have h := zKE s hs hsz s.size 0 (by omega);have e0 : dval s 0 = 0 := rfl;rw [e0,zXf] at h;exact h
theorem zZx : r1_Sign.f false = some 0 := rfl
theorem zKo : r1_Infinite.f false = some ((INF : Nat) : Int) := by kernel_rfl
theorem zVZ (e : Int) (j R : Nat) (hj : (j : Int) = e + 1074) (hb : j ≤ 100000) (hR : R ≤ 9007199254740992) (h2 : j = 0 ∨ 4503599627370496 ≤ R) :
  Ev (fun k => r1_Round.j4 k false e (R : Int)) ((min (j * 4503599627370496 + R) INF : Nat) : Int) := by
 have hj5 : ∀ (e' : Int) (j' R' : Nat),(j' : Int) = e' + 1074 → j' ≤ 100001 → R' < 9007199254740992 → (j' = 0 ∨ 4503599627370496 ≤ R') → Ev (fun k => r1_Round.j5 k false e' (R' : Int)) ((min (j' * 4503599627370496 + R') INF : Nat) : Int) := by
  intro e' j' R' hj' hb' hR' h2';refine Ev.step (f := fun _ => some ((min (j' * 4503599627370496 + R') INF : Nat) : Int)) (fun k => ?_) (Ev.now _);rw [r1_Round.j5];by_cases ho : e' > 971
  ·rw [if_pos ho,zKo,Option.bind_some];unfold INF;rw [Nat.min_eq_right (by omega)]
  ·rw [if_neg ho];by_cases hs : R' < 4503599627370496
   ·(obtain rfl : j' = 0 := by omega);rw [if_pos (by omega),zZx,Option.bind_some,zJd _ (by omega),Nat.zero_mul,Nat.zero_add];unfold INF;rw [Nat.min_eq_left (by omega)]
   ·rw [if_neg (by omega),zZx,Option.bind_some,wrapB _ (by omega) (by omega)];(have h1 : IntKind.u64.wrap (e' + 1075) = ((j' + 1 : Nat) : Int) := by rw [show (e' + 1075) = ((j' + 1 : Nat) : Int) by omega,u64_in _ (by omega)]);(have h3 : IntKind.u64.wrap (((j' + 1 : Nat) : Int) * 4503599627370496) = (((j' + 1) * 4503599627370496 : Nat) : Int) := by rw [show (((j' + 1 : Nat) : Int) * 4503599627370496) = (((j' + 1) * 4503599627370496 : Nat) : Int) by omega,u64_in _ (by omega)]);(have h4 : IntKind.u64.wrap ((R' : Int) - 4503599627370496) = ((R' - 4503599627370496 : Nat) : Int) := by rw [show ((R' : Int) - 4503599627370496) = ((R' - 4503599627370496 : Nat) : Int) by omega,u64_in _ (by omega)]);rw [h1,h3,h4,zJd _ (by omega),zHq _ _ (by omega) (by omega)];unfold INF;rw [Nat.min_eq_left (by omega)];exact congrArg (fun z : Nat => some (z : Int)) (by omega)
 by_cases hbig : R = 9007199254740992
 ·subst hbig;have g := hj5 (e + 1) (j + 1) 4503599627370496 (by omega) (by omega) (by decide) (.inr (by decide));rw [show (j + 1) * 4503599627370496 + 4503599627370496 = j * 4503599627370496 + 9007199254740992 by omega] at g;refine Ev.step (fun k => ?_) g;rw [r1_Round.j4,if_pos (by rfl),wrapB _ (by omega) (by omega)]
  rfl
 ·have g := hj5 e j R hj (by omega) (by omega) h2;refine Ev.step (fun k => ?_) g;rw [r1_Round.j4,if_neg (by omega)]
def rnd2 (y : Nat) (lost : Bool) : Nat := if 2 < y % 4 ∨ (y % 4 = 2 ∧ (lost = true ∨ y / 4 % 2 = 1)) then y / 4 + 1 else y / 4
theorem zVY (y : Nat) (lost : Bool) (e : Int) (j : Nat) (hy : y < 36028797018963968) (hj : (j : Int) = e + 1074) (hb : j ≤ 100000) (h2 : j = 0 ∨ 4503599627370496 ≤ y / 4) :
  Ev (fun k => r1_Round.j2 k false e (toD y) lost) ((min (j * 4503599627370496 + rnd2 y lost) INF : Nat) : Int) := by
 have hs := zWI y (by omega)
 have hlow : Go.bits .and .u64 (y : Int) 3 = ((y % 4 : Nat) : Int) := by
  have := zYZ y 3 (by omega) (by decide);rw [show (3 : Nat) = 2 ^ 2 - 1 from rfl,Nat.and_two_pow_sub_one_eq_mod] at this;exact this
 (have hq : ((y : Int) / 4) = ((y / 4 : Nat) : Int) := by omega);have hmod : Int.tmod ((y / 4 : Nat) : Int) 2 = ((y / 4 % 2 : Nat) : Int) := by rw [Int.tmod_eq_emod_of_nonneg (by omega)];omega
 have hj3 : ∀ (z : Bool),Ev (fun k => r1_Round.j3 k false e ((y / 4 : Nat) : Int) z) ((min (j * 4503599627370496 + (if z = true then y / 4 + 1 else y / 4)) INF : Nat) : Int) := by
  intro z;have g := zVZ e j (if z = true then y / 4 + 1 else y / 4) hj hb (by split <;> omega) (by split <;> omega);refine Ev.step (fun k => ?_) g;rw [r1_Round.j3]
  cases z with
  | true => rw [if_pos rfl,if_pos rfl,show (((y / 4 : Nat) : Int) + 1) = ((y / 4 + 1 : Nat) : Int) by omega,u64_in _ (by omega)]
  | false => rw [if_neg (by decide),if_neg (by decide)]
 have hgo : ∀ z : Bool,(z = true ↔ (2 < y % 4 ∨ (y % 4 = 2 ∧ (lost = true ∨ y / 4 % 2 = 1)))) → (if z = true then y / 4 + 1 else y / 4) = rnd2 y lost := by
  intro z hz;unfold rnd2
  cases z with
  | true => rw [if_pos rfl,if_pos (hz.1 rfl)]
  | false => rw [if_neg (by decide),if_neg (fun c => by have := hz.2 c;cases this)]
 by_cases c1 : 2 < y % 4
 ·have g := hj3 true;rw [hgo true ⟨fun _ => .inl c1,fun _ => rfl⟩] at g;refine Ev.step (fun k => ?_) g;rw [r1_Round.j2,hs,Option.bind_some,Option.bind_some,hlow,if_pos (by omega),hq]
 ·by_cases c2 : y % 4 = 2
  ·cases lost with
   | true =>
    have g := hj3 true;rw [hgo true ⟨fun _ => .inr ⟨c2,.inl rfl⟩,fun _ => rfl⟩] at g;refine Ev.step (fun k => ?_) g;rw [r1_Round.j2,hs,Option.bind_some,Option.bind_some,hlow,if_neg (by omega),if_pos (by omega),if_pos rfl,hq]
   | false =>
    have g := hj3 (((y / 4 % 2 : Nat) : Int) == 1)
    rw [hgo _ ⟨fun h => .inr ⟨c2,.inr (by have := beq_iff_eq.1 h;omega)⟩,fun h => beq_iff_eq.2 (by
     rcases h with h | h
     ·omega
     ·rcases h.2 with h3 | h3
      ·cases h3
      ·omega)⟩] at g
    refine Ev.step (fun k => ?_) g;rw [r1_Round.j2,hs,Option.bind_some,Option.bind_some,hlow,if_neg (by omega),if_pos (by omega),if_neg (by decide),hq,hmod]
  ·have g := hj3 false;rw [hgo false ⟨(fun h => by cases h),(fun h => by omega)⟩] at g;refine Ev.step (fun k => ?_) g;rw [r1_Round.j2,hs,Option.bind_some,Option.bind_some,hlow,if_neg (by omega),if_neg (by omega),hq]
theorem zZU {A B P M y R j : Nat} (hB : 0 < B) (hP : 0 < P) (hM : 0 < M) (hK : K * (M * 2 ^ 2) = 2 ^ (j + 1) * P) (hA : A * P = y * (B * M) + R) (hR : R < B * M) (h1 : y / 4 < 9007199254740992) (h2 : j = 0 ∨ 4503599627370496 ≤ y / 4) (lost : Bool) (hl : lost = true ↔ 0 < R) :
  zXH A B (j * 4503599627370496 + rnd2 y lost) := by
 have h := zJJ (n := 2) hB hP hM (by decide) hK hA hR h1 h2
 have e : rnd2 y lost = if 2 ^ (2 - 1) < y % 2 ^ 2 ∨ (y % 2 ^ 2 = 2 ^ (2 - 1) ∧ (0 < R ∨ y / 2 ^ 2 % 2 = 1)) then y / 2 ^ 2 + 1 else y / 2 ^ 2 := by
  unfold rnd2;simp only [hl]
 rw [e];exact h
theorem zVt {A B P M x R L : Nat} {e : Int} (hB : 0 < B) (hP : 0 < P) (hM : 0 < M) (hA : A * P = x * (B * M) + R) (hR : R < B * M) (hx : x < 2 ^ L) (he : L + e < -1100)
  (hK : ∀ n j : Nat,(j : Int) = e + n + 1074 → K * (M * 2 ^ n) = 2 ^ (j + 1) * P) : zXH A B 0 := by
 refine zWz ?_
 obtain ⟨n,hn⟩ : ∃ n : Nat,(n : Int) = -1074 - e := ⟨(-1074 - e).toNat,by omega⟩;have hKK := hK n 0 (by omega);rw [Nat.zero_add,Nat.pow_one] at hKK
 have c1 : A * P < 2 ^ L * (B * M) := by
  have := Nat.mul_le_mul_right (B * M) (show x + 1 ≤ 2 ^ L from hx);rw [Nat.add_mul,Nat.one_mul] at this;omega
 have c2 : A * P * (K * 2 ^ n) < 2 ^ L * (B * M) * (K * 2 ^ n) := Nat.mul_lt_mul_of_pos_right c1 (Nat.mul_pos K_pos (Nat.two_pow_pos n))
 have c3 : 2 ^ L * (B * M) * (K * 2 ^ n) = 2 ^ (L + 1) * B * P := by
  (have : 2 ^ L * (B * M) * (K * 2 ^ n) = 2 ^ L * B * (K * (M * 2 ^ n)) := by simp only [Nat.mul_assoc,Nat.mul_comm,Nat.mul_left_comm]);rw [this,hKK,Nat.pow_succ];simp only [Nat.mul_assoc,Nat.mul_comm,Nat.mul_left_comm]
 (have c4 : A * P * (K * 2 ^ n) = A * K * 2 ^ n * P := by simp only [Nat.mul_assoc,Nat.mul_comm,Nat.mul_left_comm]);rw [c3,c4] at c2;have c5 := Nat.lt_of_mul_lt_mul_right c2;have c6 : A * K * 2 ^ (L + 1) ≤ A * K * 2 ^ n := Nat.mul_le_mul_left _ (Nat.pow_le_pow_right (by decide) (by omega));have c7 : A * K * 2 ^ (L + 1) < 2 ^ (L + 1) * B := Nat.lt_of_le_of_lt c6 c5;rw [Nat.mul_comm _ (2 ^ (L + 1))] at c7;exact Nat.lt_of_mul_lt_mul_left c7
theorem zJW {A B P M x R : Nat} {e : Int} (m : Nat) (hm : m ≤ 20000) (hB : 0 < B) (hP : 0 < P) (hM : 0 < M) (hA : A * P = x * (B * M) + R) (hR : R < B * M) (hx : x ≠ 0) (hbig : R = 0 ∨ 2 ^ 60 ≤ x) (he : -8000 ≤ e) (he2 : e ≤ 8000) (hxl : x < 2 ^ m)
  (hK : ∀ n j : Nat,(j : Int) = e + n + 1074 → K * (M * 2 ^ n) = 2 ^ (j + 1) * P) :
  ∃ v,zXH A B v ∧ Ev (fun k => r1_Round.f k false e (toD x) (decide (0 < R))) ((min v INF : Nat) : Int) := by
 have hll := zXl hxl;obtain ⟨L,hL1,hL2,hL3⟩ := zZy (toD x) (zQK x) (by omega);rw [zQP] at hL2;obtain ⟨g1,g2,g3⟩ := hL2.2 hx;have hL20 := zWn hL2 hxl
 have hstart : ∀ r : Int,Ev (fun k => r1_Round.j0 k false e (toD x) (decide (0 < R)) (L : Int) (decide ((wrap64 ((L : Int) + e)) < (-1100)))) r → Ev (fun k => r1_Round.f k false e (toD x) (decide (0 < R))) r := by
  intro r hr;refine Ev.congr (fun k => ?_) (Ev.bind hL3 (f := fun k t505 => if t505 = 0 then (if decide (0 < R) = true then (r1_Round.j0 k false e (toD x) (decide (0 < R)) t505 (decide ((wrap64 (t505 + e)) < (-1100)))) else (r1_Round.j0 k false e (toD x) (decide (0 < R)) t505 true)) else (r1_Round.j0 k false e (toD x) (decide (0 < R)) t505 (decide ((wrap64 (t505 + e)) < (-1100))))) (Ev.congr (fun k => if_neg (by omega)) hr))
  rfl
 have hwL : wrap64 ((L : Int) + e) = (L : Int) + e := wrapB _ (by omega) (by omega);rw [hwL] at hstart;by_cases hlow : (L : Int) + e < -1100
 ·refine ⟨0,zVt hB hP hM hA hR g3 hlow hK,hstart _ ?_⟩;refine Ev.step (f := fun _ => some ((min 0 INF : Nat) : Int)) (fun k => ?_) (Ev.now _);rw [r1_Round.j0,if_pos (decide_eq_true hlow),zZx,Option.bind_some,Nat.zero_min]
  rfl
 ·
  obtain ⟨drop,hd1,hd2,hd3⟩ : ∃ drop : Int,(L : Int) - 53 ≤ drop ∧ -1074 - e ≤ drop ∧ (drop = (L : Int) - 53 ∨ drop = -1074 - e) := by
   by_cases h : -1074 - e ≤ (L : Int) - 53
   ·exact ⟨(L : Int) - 53,by omega,h,.inl rfl⟩
   ·exact ⟨-1074 - e,by omega,by omega,.inr rfl⟩
  obtain ⟨j,hj⟩ : ∃ j : Nat,(j : Int) = e + drop + 1074 := ⟨(e + drop + 1074).toNat,by omega⟩
  obtain ⟨y,lost,hy,hj0,hnear,hrun⟩ : ∃ (y : Nat) (lost : Bool),y < 36028797018963968 ∧ (j = 0 ∨ 4503599627370496 ≤ y / 4) ∧ zXH A B (j * 4503599627370496 + rnd2 y lost) ∧
    (∀ r : Int,Ev (fun k => r1_Round.j2 k false (e + drop) (toD y) lost) r → Ev (fun k => r1_Round.j1 k false e (toD x) (decide (0 < R)) drop) r) := by
   have hwe : wrap64 (e + drop) = e + drop := wrapB _ (by omega) (by omega);by_cases h2 : 2 ≤ drop
   ·obtain ⟨d,hd⟩ : ∃ d : Nat,(d : Int) = drop - 2 := ⟨(drop - 2).toNat,by omega⟩;have hBM : 0 < B * M := Nat.mul_pos hB hM;have hdm := Nat.div_add_mod x (2 ^ d);have hml := Nat.mod_lt x (Nat.two_pow_pos d)
    have hylt : x / 2 ^ d < 36028797018963968 := by
     rw [Nat.div_lt_iff_lt_mul (Nat.two_pow_pos d),show (36028797018963968 : Nat) = 2 ^ 55 from rfl,← Nat.pow_add];exact Nat.lt_of_lt_of_le g3 (Nat.pow_le_pow_right (by decide) (by omega))
    have hge : j = 0 ∨ 4503599627370496 ≤ x / 2 ^ d / 4 := by
     rcases hd3 with h | h
     ·refine .inr ?_
      have : 2 ^ 54 ≤ x / 2 ^ d := by
       rw [Nat.le_div_iff_mul_le (Nat.two_pow_pos d),← Nat.pow_add];exact Nat.le_trans (Nat.pow_le_pow_right (by decide) (by omega)) g2
      omega
     ·exact .inl (by omega)
    have hA' : A * P = x / 2 ^ d * (B * (M * 2 ^ d)) + (x % 2 ^ d * (B * M) + R) := by
     rw [hA,← Nat.add_assoc]
     congr 1
     rw [← Nat.mul_assoc B M,show x / 2 ^ d * (B * M * 2 ^ d) = 2 ^ d * (x / 2 ^ d) * (B * M) by simp only [Nat.mul_assoc,Nat.mul_comm,Nat.mul_left_comm],← Nat.add_mul,hdm]
    have hR' : x % 2 ^ d * (B * M) + R < B * (M * 2 ^ d) := by
     have h1 : (x % 2 ^ d + 1) * (B * M) ≤ 2 ^ d * (B * M) := Nat.mul_le_mul_right _ hml;rw [Nat.add_mul,Nat.one_mul] at h1;rw [← Nat.mul_assoc B M,Nat.mul_comm (B * M)];omega
    have hK' : K * (M * 2 ^ d * 2 ^ 2) = 2 ^ (j + 1) * P := by
     rw [Nat.mul_assoc M,← Nat.pow_add];exact hK (d + 2) j (by omega)
    have hlost : (decide (0 < R) || decide (x % 2 ^ d ≠ 0)) = true ↔ 0 < x % 2 ^ d * (B * M) + R := by
     rw [Bool.or_eq_true,decide_eq_true_iff,decide_eq_true_iff];constructor
     ·rintro (h | h)
      ·omega
      ·have := Nat.mul_pos (Nat.pos_of_ne_zero h) hBM;omega
     ·intro h;by_cases h0 : 0 < R
      ·exact .inl h0
      ·refine .inr (fun hz => ?_);rw [hz,Nat.zero_mul] at h;omega
    refine ⟨x / 2 ^ d,(decide (0 < R) || decide (x % 2 ^ d ≠ 0)),hylt,hge,zZU hB hP (Nat.mul_pos hM (Nat.two_pow_pos d)) hK' hA' hR' (by omega) hge _ hlost,fun r hr => ?_⟩;have hdn := zGa (toD x) (zQK x) (by omega) d (by omega);rw [zQP] at hdn;refine Ev.step (fun k => ?_) (Ev.bind hdn (f := fun k bt511 => if decide (0 < R) = true then (r1_Round.j2 k false (e + drop) bt511.1 true) else (r1_Round.j2 k false (e + drop) bt511.1 bt511.2)) ?_)
    ·rw [r1_Round.j1,if_pos h2,wrapB (drop - 2) (by omega) (by omega),← hd,hwe]
    ·by_cases h0 : 0 < R
     ·rw [decide_eq_true h0,Bool.true_or] at hr;simp only [decide_eq_true h0,if_true];exact hr
     ·rw [decide_eq_false h0,Bool.false_or] at hr;simp only [decide_eq_false h0,Bool.false_eq_true,if_false];exact hr
   ·
    have hR0 : R = 0 := by
     rcases hbig with h | h
     ·exact h
     ·exfalso
      have : 2 ^ 60 < 2 ^ L := Nat.lt_of_le_of_lt h g3;have := (Nat.pow_lt_pow_iff_right (by decide : 1 < 2)).1 this;omega
    subst hR0;obtain ⟨s,hs⟩ : ∃ s : Nat,(s : Int) = 2 - drop := ⟨(2 - drop).toNat,by omega⟩
    have hylt : x * 2 ^ s < 36028797018963968 := by
     have h1 : x * 2 ^ s < 2 ^ L * 2 ^ s := Nat.mul_lt_mul_of_pos_right g3 (Nat.two_pow_pos s);rw [← Nat.pow_add] at h1;rw [show (36028797018963968 : Nat) = 2 ^ 55 from rfl];exact Nat.lt_of_lt_of_le h1 (Nat.pow_le_pow_right (by decide) (by omega))
    have hge : j = 0 ∨ 4503599627370496 ≤ x * 2 ^ s / 4 := by
     rcases hd3 with h | h
     ·refine .inr ?_
      have : 2 ^ 54 ≤ x * 2 ^ s := by
       have h1 : 2 ^ (L - 1) * 2 ^ s ≤ x * 2 ^ s := Nat.mul_le_mul_right _ g2;rw [← Nat.pow_add] at h1;exact Nat.le_trans (Nat.pow_le_pow_right (by decide) (by omega)) h1
      omega
     ·exact .inl (by omega)
    have hA' : A * (P * 2 ^ s) = x * 2 ^ s * (B * M) + 0 := by
     rw [← Nat.mul_assoc,hA,Nat.add_zero,Nat.add_zero];simp only [Nat.mul_assoc,Nat.mul_comm,Nat.mul_left_comm]
    have hK' : K * (M * 2 ^ 2) = 2 ^ (j + 1) * (P * 2 ^ s) := by
     have h1 := hK 2 (j + s) (by omega);rw [h1,show j + s + 1 = j + 1 + s by omega,Nat.pow_add];simp only [Nat.mul_assoc,Nat.mul_comm,Nat.mul_left_comm]
    refine ⟨x * 2 ^ s,false,hylt,hge,zZU hB (Nat.mul_pos hP (Nat.two_pow_pos s)) hM hK' hA' hR (by omega) hge _ ⟨(fun h => by cases h),(fun h => by omega)⟩,fun r hr => ?_⟩;have hup := zKL (toD x) (zQK x) s (by omega);rw [zQP] at hup;refine Ev.step (fun k => ?_) (Ev.bind hup (f := fun k t515 => r1_Round.j2 k false (e + drop) t515 false) hr);rw [r1_Round.j1,if_neg (by omega),wrapB (2 - drop) (by omega) (by omega),← hs,hwe]
    rfl
  refine ⟨_,hnear,hstart _ ?_⟩;by_cases hfar : (L : Int) + e > 1100
  ·have hinf : INF ≤ j * 4503599627370496 + rnd2 y lost := by
    unfold INF;omega
   rw [Nat.min_eq_right hinf];refine Ev.step (f := fun _ => some ((INF : Nat) : Int)) (fun k => ?_) (Ev.now _);rw [r1_Round.j0,if_neg (fun c => hlow (of_decide_eq_true c)),hwL,if_pos hfar,zKo,Option.bind_some]
  ·have ht := hrun _ (zVY y lost (e + drop) j hy (by omega) (by omega) hj0);have hw1 : wrap64 ((-1074) - e) = -1074 - e := wrapB _ (by omega) (by omega);have hw2 : wrap64 ((L : Int) - 53) = (L : Int) - 53 := wrapB _ (by omega) (by omega);refine Ev.step (fun k => ?_) ht;rw [r1_Round.j0,if_neg (fun c => hlow (of_decide_eq_true c)),hwL,if_neg hfar,hw1,hw2];by_cases hc : -1074 - e > (L : Int) - 53
   ·rw [if_pos hc,show -1074 - e = drop by omega]
   ·rw [if_neg hc,show (L : Int) - 53 = drop by omega]
theorem zJG (r : Nat) : decide (((toD r).length : Int) > 0) = decide (0 < r) := by
 by_cases h : r = 0
 ·subst h;rw [zXf];rfl
 ·rw [zYb h,List.length_cons,decide_eq_true (by omega),decide_eq_true (by omega)]
theorem zGc {D t ld lt u : Nat} (hD : D ≠ 0) (ht : t ≠ 0) (hd : LenIs D ld) (hl : LenIs t lt) (h : lt + 61 ≤ ld + u) : 2 ^ 60 ≤ D * 2 ^ u / t := by
 obtain ⟨a1,a2,a3⟩ := hd.2 hD;obtain ⟨b1,b2,b3⟩ := hl.2 ht;rw [Nat.le_div_iff_mul_le (Nat.pos_of_ne_zero ht)];have h1 : 2 ^ 60 * t ≤ 2 ^ 60 * 2 ^ lt := Nat.mul_le_mul_left _ (Nat.le_of_lt b3);rw [← Nat.pow_add] at h1;have h2 : 2 ^ (60 + lt) ≤ 2 ^ (ld - 1 + u) := Nat.pow_le_pow_right (by decide) (by omega);rw [Nat.pow_add 2 (ld - 1)] at h2;have h3 : 2 ^ (ld - 1) * 2 ^ u ≤ D * 2 ^ u := Nat.mul_le_mul_right _ a2;omega
theorem zVm (s : ByteArray) (e : Int) (hs : zXO s) (hsz : s.size ≤ 400) (he : -100000 ≤ e) (he2 : e ≤ 100000) : ∃ w,zBq (dval s s.size) e w ∧ Ev (fun k => r5_Near.f k s e) ((w : Nat) : Int) := by
 have hwh := zVT s hs (by omega);have hD1 : dval s s.size < 2 ^ (4 * s.size + 1) := Nat.lt_trans (zJI s hs s.size (Nat.le_refl _)) (zYK s.size);obtain ⟨m,hm⟩ : ∃ m,m = 4 * s.size + 1 := ⟨_,rfl⟩;(have hD : dval s s.size < 2 ^ m := by rw [hm];exact hD1);(have hm2 : m ≤ 1601 := by omega);clear hm;obtain ⟨D,hDD⟩ : ∃ D,D = dval s s.size := ⟨_,rfl⟩;rw [← hDD] at hwh hD ⊢;clear hD1 hDD;have hlD := zXl hD
 have hgo : ∀ w : Int,Ev (fun k => if ((toD D).length : Int) = 0 then (r5_Near.j0 k (toD D) true s e) else (r5_Near.j0 k (toD D) (decide (e < (-1000))) s e)) w → Ev (fun k => r5_Near.f k s e) w := by
  intro w h;exact Ev.bind hwh (f := fun k t584 => if (t584.length : Int) = 0 then (r5_Near.j0 k t584 true s e) else (r5_Near.j0 k t584 (decide (e < (-1000))) s e)) h
 unfold zBq;by_cases h1 : D = 0 ∨ e < -1000
 ·refine ⟨0,by rw [if_pos h1],hgo _ ?_⟩;have hz : Ev (fun k => r5_Near.j0 k (toD D) true s e) ((0 : Nat) : Int) := Ev.step (f := fun _ => some 0) (fun k => by rw [r5_Near.j0,if_pos rfl]) (Ev.now _);by_cases h0 : ((toD D).length : Int) = 0
  ·simp only [if_pos h0];exact hz
  ·(have hD0 : D ≠ 0 := by intro h;rw [h,zXf] at h0;exact h0 rfl);have he3 : e < -1000 := h1.resolve_left hD0;simp only [if_neg h0,decide_eq_true he3];exact hz
 ·(have hD0 : D ≠ 0 := fun h => h1 (.inl h));(have he3 : ¬ e < -1000 := fun h => h1 (.inr h));(have hlen : ¬ ((toD D).length : Int) = 0 := by rw [zYb hD0,List.length_cons];omega);simp only [if_neg hlen,decide_eq_false he3] at hgo;by_cases h2 : 400 < e
  ·refine ⟨INF,by rw [if_neg h1,if_pos h2],hgo _ ?_⟩;refine Ev.step (f := fun _ => some ((INF : Nat) : Int)) (fun k => ?_) (Ev.now _);rw [r5_Near.j0,if_neg (by decide),if_pos h2,zKo,Option.bind_some]
  ·by_cases h3 : e ≥ 0
   ·obtain ⟨n,rfl⟩ := Int.eq_ofNat_of_zero_le h3;have hten := zKK n (by omega);have h10 := zYK n;have hlt := zXl h10;have hpr := zYo (toD D) (toD (10 ^ n)) (zQK _) (zQK _) (by omega) (by omega);rw [zQP,zQP] at hpr
    have hx : D * 10 ^ n < 2 ^ (m + (4 * n + 1)) := by
     have : D * 10 ^ n < 2 ^ m * 2 ^ (4 * n + 1) := Nat.mul_lt_mul'' hD h10
     rwa [← Nat.pow_add] at this
    obtain ⟨v,hv,hve⟩ := zJW (m + (4 * n + 1)) (by omega) (A := D * 10 ^ n) (B := 1) (P := 1) (M := 1) (x := D * 10 ^ n) (R := 0) (e := 0) (by decide) (by decide) (by decide) (by omega) (by decide) (Nat.mul_ne_zero hD0 (Nat.ne_of_gt (Nat.pow_pos (by decide)))) (.inl rfl) (by decide) (by decide) hx
     (fun n' j hj => by have := zVP 0 0 0 n' j hj (by decide);rw [Nat.pow_zero] at this;exact this)
    refine ⟨min v INF,?_,hgo _ ?_⟩
    ·rw [if_neg h1,if_neg h2];refine ⟨v,?_,rfl⟩;unfold upN loN;rw [show (-(n : Int)).toNat = 0 by omega,Nat.pow_zero,Int.toNat_natCast];exact hv
    ·have hve : Ev (fun k => r1_Round.f k false 0 (toD (D * 10 ^ n)) false) ((min v INF : Nat) : Int) := hve;refine Ev.step (fun k => ?_) (Ev.bind hten (f := fun k t588 => (r1_Product.f k (toD D) t588).bind fun t591 => (r1_Round.f k false 0 t591 false).bind fun t594 => some t594) (Ev.bind hpr (Ev.bind hve (Ev.now _))));rw [r5_Near.j0,if_neg (by decide),if_neg h2,if_pos h3]
   ·obtain ⟨n,hn⟩ := Int.eq_ofNat_of_zero_le (show 0 ≤ -e by omega);have hten := zKK n (by omega);have h10 := zYK n;have hlt := zXl h10;have ht0 : 10 ^ n ≠ 0 := Nat.ne_of_gt (Nat.pow_pos (by decide));obtain ⟨lt,t1,t2,t3⟩ := zZy (toD (10 ^ n)) (zQK _) (by omega);obtain ⟨ld,d1,d2,d3⟩ := zZy (toD D) (zQK _) (by omega);rw [zQP] at t2 d2;have hlt2 := zWn t2 h10;have hld2 := zWn d2 hD
    have hrest : ∀ u : Nat,lt + 61 ≤ ld + u → u ≤ 6000 → ∃ v,zXH D (10 ^ n) v ∧ Ev (fun k => (r1_Up.f k (toD D) (u : Int)).bind fun t610 => ((r1_Divide.f k t610 (toD (10 ^ n))).bind fun bt613 => ((r1_Round.f k false (-(u : Int)) bt613.1 (decide ((bt613.2.length : Int) > 0))).bind fun t619 => (some t619)))) ((min v INF : Nat) : Int) := by
     intro u hu hu2;have hup := zKL (toD D) (zQK _) u (by omega);rw [zQP] at hup;(have hxu : D * 2 ^ u < 2 ^ (m + u) := by rw [Nat.pow_add];exact Nat.mul_lt_mul_of_pos_right hD (Nat.two_pow_pos u));have hlu := zXl hxu;have hdv := zWk (toD (D * 2 ^ u)) (toD (10 ^ n)) (zQK _) (zQK _) (by rw [zQP];exact ht0) (by omega) (by omega);rw [zQP,zQP] at hdv;have hq := zGc hD0 ht0 d2 t2 hu
     obtain ⟨v,hv,hve⟩ := zJW (m + u) (by omega) (A := D) (B := 10 ^ n) (P := 2 ^ u) (M := 1) (x := D * 2 ^ u / 10 ^ n) (R := D * 2 ^ u % 10 ^ n) (e := -(u : Int)) (Nat.pos_of_ne_zero ht0) (Nat.two_pow_pos u) (by decide)
      (by rw [Nat.mul_one,Nat.mul_comm (D * 2 ^ u / 10 ^ n)];exact (Nat.div_add_mod ..).symm) (by rw [Nat.mul_one];exact Nat.mod_lt _ (Nat.pos_of_ne_zero ht0)) (by
       have : 0 < 2 ^ 60 := Nat.two_pow_pos 60
       omega) (.inr hq) (by omega) (by omega) (Nat.lt_of_le_of_lt (Nat.div_le_self ..) hxu)
      (fun n' j hj => by have := zVP (-(u : Int)) u 0 n' j hj (by omega);rw [Nat.pow_zero] at this;exact this)
     refine ⟨v,hv,?_⟩;rw [← zJG] at hve;exact Ev.bind hup (Ev.bind hdv (f := fun k bt613 => (r1_Round.f k false (-(u : Int)) bt613.1 (decide ((bt613.2.length : Int) > 0))).bind fun t619 => (some t619)) (Ev.bind hve (Ev.now _)))
    have hw1 : wrap64 ((lt : Int) - (ld : Int)) = (lt : Int) - ld := wrapB _ (by omega) (by omega);have hw2 : wrap64 ((lt : Int) - (ld : Int) + 70) = (lt : Int) - ld + 70 := wrapB _ (by omega) (by omega);have hw0 : wrap64 (-e) = (n : Int) := by rw [wrapB _ (by omega) (by omega)];exact hn
    have hread : ∀ v,zXH D (10 ^ n) v → (if D = 0 ∨ e < -1000 then min v INF = 0 else if 400 < e then min v INF = INF else ∃ v',zXH (upN D e) (loN e) v' ∧ min v INF = min v' INF) := by
     intro v hv;rw [if_neg h1,if_neg h2];refine ⟨v,?_,rfl⟩;unfold upN loN;rw [show e.toNat = 0 by omega,show (-e).toNat = n by omega,Nat.pow_zero,Nat.mul_one];exact hv
    by_cases hneg : (lt : Int) - ld + 70 < 0
    ·obtain ⟨v,hv,hve⟩ := hrest 0 (by omega) (by omega);refine ⟨min v INF,hread v hv,hgo _ ?_⟩
     refine Ev.step (fun k => ?_) (Ev.bind hten (f := fun k t595 => (r1_Len.f k t595).bind fun t598 => (r1_Len.f k (toD D)).bind fun t599 => (if (wrap64 ((wrap64 (t598 - t599)) + 70)) < 0 then ((r1_Up.f k (toD D) 0).bind fun t600 => ((r1_Divide.f k t600 t595).bind fun bt603 => ((r1_Round.f k false 0 bt603.1 (decide ((bt603.2.length : Int) > 0))).bind fun t609 => (some t609)))) else ((r1_Up.f k (toD D) (wrap64 ((wrap64 (t598 - t599)) + 70))).bind fun t610 => ((r1_Divide.f k t610 t595).bind fun bt613 => ((r1_Round.f k false (wrap64 (-(wrap64 ((wrap64 (t598 - t599)) + 70)))) bt613.1 (decide ((bt613.2.length : Int) > 0))).bind fun t619 => (some t619))))))
      (Ev.bind t3 (Ev.bind d3 (Ev.congr (fun k => by rw [hw1,hw2,if_pos hneg];rfl) hve))))
     rw [r5_Near.j0,if_neg (by decide),if_neg h2,if_neg h3,hw0]
    ·obtain ⟨u,hu⟩ := Int.eq_ofNat_of_zero_le (show 0 ≤ (lt : Int) - ld + 70 by omega);obtain ⟨v,hv,hve⟩ := hrest u (by omega) (by omega);(have hw3 : wrap64 (-((lt : Int) - ld + 70)) = -(u : Int) := by rw [wrapB _ (by omega) (by omega),hu]);refine ⟨min v INF,hread v hv,hgo _ ?_⟩
     refine Ev.step (fun k => ?_) (Ev.bind hten (f := fun k t595 => (r1_Len.f k t595).bind fun t598 => (r1_Len.f k (toD D)).bind fun t599 => (if (wrap64 ((wrap64 (t598 - t599)) + 70)) < 0 then ((r1_Up.f k (toD D) 0).bind fun t600 => ((r1_Divide.f k t600 t595).bind fun bt603 => ((r1_Round.f k false 0 bt603.1 (decide ((bt603.2.length : Int) > 0))).bind fun t609 => (some t609)))) else ((r1_Up.f k (toD D) (wrap64 ((wrap64 (t598 - t599)) + 70))).bind fun t610 => ((r1_Divide.f k t610 t595).bind fun bt613 => ((r1_Round.f k false (wrap64 (-(wrap64 ((wrap64 (t598 - t599)) + 70)))) bt613.1 (decide ((bt613.2.length : Int) > 0))).bind fun t619 => (some t619))))))
      (Ev.bind t3 (Ev.bind d3 (Ev.congr (fun k => by rw [hw1,hw2,if_neg hneg,hw3,hu]) hve))))
     rw [r5_Near.j0,if_neg (by decide),if_neg h2,if_neg h3,hw0]
end Go.Proofs.YtflcanpajgpghaaGreatDoor.Pure
end
section
namespace Go.Proofs.YtflcanpajgpghaaGreatDoor.Pure
open Go.RowKit Go.Proofs.YtflcanpajgpghaaGreatDoor.Pr Go.Proofs.YtflcanpajgpghaaGreatDoorW.PrintWords Go.Proofs.YtflcanpajgpghaaGreatDoorW.PrintLast Go.Proofs.YtflcanpajgpghaaGreatDoorW.PrintMore
def dg (x : Nat) : Int := ((48 + x % 10 : Nat) : Int)
def ds (x : Nat) : List Int := if x = 0 then [] else ds (x / 10) ++ [dg x]
termination_by x
decreasing_by omega
def dl : Nat → Nat → List Int
 | 0,_ => []
 | m + 1,x => dl m (x / 10) ++ [dg x]
def strip (x : Nat) : Nat := if x ≠ 0 ∧ x % 10 = 0 then strip (x / 10) else x
termination_by x
decreasing_by omega
theorem zYl : ds 0 = [] := by rw [ds];rfl
theorem zYi {x : Nat} (h : x ≠ 0) : ds x = ds (x / 10) ++ [dg x] := by rw [ds,if_neg h]
theorem zYW {x : Nat} (h : x ≠ 0) (h1 : x % 10 = 0) : strip x = strip (x / 10) := by rw [strip,if_pos ⟨h,h1⟩]
theorem zZY {x : Nat} (h1 : x % 10 ≠ 0) : strip x = x := by rw [strip,if_neg (fun h => h1 h.2)]
theorem zQZ : ∀ (m x : Nat),(dl m x).length = m
 | 0,_ => rfl
 | m + 1,x => by rw [dl,List.length_append,zQZ m];rfl
theorem dl_ds : ∀ (m x : Nat),10 ^ m ≤ x → x < 10 ^ (m + 1) → dl (m + 1) x = ds x
 | 0,x,h1,h2 => by
  rw [Nat.pow_zero] at h1;rw [Nat.pow_succ,Nat.pow_zero] at h2;rw [zYi (by omega),show x / 10 = 0 by omega,zYl,dl,dl]
 | m + 1,x,h1,h2 => by
  rw [Nat.pow_succ] at h1 h2;rw [dl,zYi (by have : 0 < 10 ^ m := Nat.pow_pos (by decide);omega),dl_ds m (x / 10) (by omega) (by omega)]
theorem zZQ (n x : Nat) : ∀ j,dl (n + j) (x * 10 ^ j) = dl n x ++ List.replicate j 48
 | 0 => by rw [Nat.pow_zero,Nat.mul_one,List.replicate_zero,List.append_nil,Nat.add_zero]
 | j + 1 => by
  (have e1 : x * 10 ^ (j + 1) = 10 * (x * 10 ^ j) := by rw [Nat.pow_succ,← Nat.mul_assoc,Nat.mul_comm]);rw [← Nat.add_assoc,dl,e1,show 10 * (x * 10 ^ j) / 10 = x * 10 ^ j by omega,zZQ n x j,List.replicate_succ',List.append_assoc];unfold dg;rw [show 10 * (x * 10 ^ j) % 10 = 0 by omega]
  rfl
theorem zVy (i y t : Nat) (h : t ≤ 9) : dl (i + 1) (10 * y + t) = dl i y ++ [((48 + t : Nat) : Int)] := by
 rw [dl,show (10 * y + t) / 10 = y by omega];unfold dg;rw [show (10 * y + t) % 10 = t by omega]
theorem dg_in (x : Nat) : 48 ≤ dg x ∧ dg x ≤ 57 := by unfold dg;omega
theorem zVw : ∀ (m x : Nat),x < 10 ^ m → (ds x).length ≤ m
 | 0,x,h => by rw [Nat.pow_zero] at h;rw [show x = 0 by omega,zYl];exact Nat.le_refl _
 | m + 1,x,h => by
  by_cases h0 : x = 0
  ·rw [h0,zYl];exact Nat.zero_le _
  ·rw [Nat.pow_succ] at h;rw [zYi h0,List.length_append];have := zVw m (x / 10) (by omega);simp only [List.length_cons,List.length_nil];omega
theorem zJi {m x : Nat} (h1 : 10 ^ m ≤ x) (h2 : x < 10 ^ (m + 1)) : (ds x).length = m + 1 := by rw [← dl_ds m x h1 h2,zQZ]
def nb (n : Int) : UInt8 := UInt8.ofNat n.toNat
theorem zZZ (l : List Int) : (strOfNums l).data.toList = l.map nb := rfl
theorem zJV (l : List Int) (a : ByteArray) (h : a.data.toList = l.map nb) : a = strOfNums l := zZd (by unfold bytes;rw [h,zZZ])
theorem zZw (l m : List Int) : strOfNums (l ++ m) = strOfNums l ++ strOfNums m := (zJV _ _ (by rw [show (strOfNums l ++ strOfNums m).data.toList = (strOfNums l).data.toList ++ (strOfNums m).data.toList from bytes_append _ _,zZZ,zZZ,List.map_append])).symm
theorem zYn (l : List Int) : (strOfNums l).size = l.length := by
 have h := zXC (strOfNums l);rw [show bytes (strOfNums l) = l.map nb from rfl,List.length_map] at h;exact h.symm
theorem nb_dg (x : Nat) : (nb (dg x) == 48) = decide (x % 10 = 0) := by
 unfold nb dg;rw [Int.toNat_natCast];have hx : x % 10 < 10 := Nat.mod_lt _ (by decide);generalize x % 10 = t at hx;(have ht : t = 0 ∨ t = 1 ∨ t = 2 ∨ t = 3 ∨ t = 4 ∨ t = 5 ∨ t = 6 ∨ t = 7 ∨ t = 8 ∨ t = 9 := by omega);rcases ht with rfl | rfl | rfl | rfl | rfl | rfl | rfl | rfl | rfl | rfl <;> decide
theorem zBQ (l : List UInt8) (b c : UInt8) : Lib.trimRightB (l ++ [b]) c = if (b == c) = true then Lib.trimRightB l c else l ++ [b] := by
 unfold Lib.trimRightB;rw [List.reverse_append,List.reverse_singleton,List.singleton_append,List.dropWhile_cons];by_cases h : (b == c) = true
 ·rw [if_pos h,if_pos h]
 ·rw [if_neg h,if_neg h,List.reverse_cons,List.reverse_reverse]
theorem zBR : ∀ (n x : Nat),x ≤ n → Lib.trimRightB ((ds x).map nb) 48 = (ds (strip x)).map nb
 | 0,x,h => by rw [show x = 0 by omega,strip_zero',zYl];rfl
 | n + 1,x,h => by
  by_cases h0 : x = 0
  ·rw [h0,strip_zero',zYl];rfl
  ·rw [zYi h0,List.map_append,List.map_cons,List.map_nil,zBQ,nb_dg];by_cases h1 : x % 10 = 0
   ·rw [if_pos (decide_eq_true h1),zBR n (x / 10) (by omega),zYW h0 h1]
   ·rw [if_neg (by rw [decide_eq_false h1];decide),zZY h1,zYi h0,List.map_append,List.map_cons,List.map_nil]
where strip_zero' : strip 0 = 0 := by rw [strip,if_neg (fun h => h.1 rfl)]
theorem zZW (x : Nat) : zJT (strOfNums (ds x)) 48 = strOfNums (ds (strip x)) := zJV _ _ (zBR x x (Nat.le_refl _))
theorem zWF : ∀ (n x : Nat),x ≤ n → x ≠ 0 → strip x ≠ 0 ∧ strip x % 10 ≠ 0 ∧ ∃ z,x = strip x * 10 ^ z
 | 0,x,h,h0 => absurd (by omega) h0
 | n + 1,x,h,h0 => by
  by_cases h1 : x % 10 = 0
  ·obtain ⟨g1,g2,z,g3⟩ := zWF n (x / 10) (by omega) (by omega);rw [zYW h0 h1];refine ⟨g1,g2,z + 1,?_⟩;rw [Nat.pow_succ,← Nat.mul_assoc,← g3];omega
  ·rw [zZY h1];exact ⟨h0,h1,0,by omega⟩
end Go.Proofs.YtflcanpajgpghaaGreatDoor.Pure
end
