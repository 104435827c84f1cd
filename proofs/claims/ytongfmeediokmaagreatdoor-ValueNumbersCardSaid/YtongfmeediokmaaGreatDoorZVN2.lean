/- A part of the proof of the law that RowValueNumbers shows: lemmas, and contracts of the calls that it reaches. -/
import Derived.Test.YtongfmeediokmaaGreatDoorProg
import Derived.Below
import Derived.Deep.Draws
import Derived.Deep.AppendLies
import Derived.Maps.AppendAt
import Derived.OwnWalk
import Derived.Laws.BytesArg
import Derived.Laws.MakeOwn
import Derived.Laws.OwnMore
import Derived.Deep.OwnRows
import Derived.Tactics
import Derived.Lib.ConvBytes
import Derived.Laws.Slices
import Derived.WalkKit
import Derived.KernelRfl
import Derived.RowKit3
import Derived.Deep.LoopGhost
import Derived.Deep.QuietTactic
import Derived.BigQuiet
import Derived.WideLaws
import Derived.Deep.DeepCutAuto
import Derived.Deep.CutBlock
import Derived.Deep.RegionHeld3
import Derived.Laws.Rows
import Derived.Lib.AppendStr
import Derived.ArgAppend
import Derived.Laws.IdiomCopy
import Derived.OrdersHeld
import Derived.Laws.BitsLemmas
import Derived.RowKit
import Derived.Test.YtongfmeediokmaaGreatDoorZVN0
import Derived.Test.YtongfmeediokmaaGreatDoorZVN1
set_option linter.unusedVariables false
set_option linter.unusedSimpArgs false
section
namespace Go.Proofs.YtongfmeediokmaaGreatDoor.Pr
open Go.RowKit Go.Proofs.YtongfmeediokmaaGreatDoorW.PrintWords Go.Proofs.YtongfmeediokmaaGreatDoorW.PrintLast Go.Proofs.YtongfmeediokmaaGreatDoorW.PrintMore Go.Proofs.YtongfmeediokmaaGreatDoor.Pv
attribute [local go_sem] zXc zXa zXm zXl zQO zQN zXb zQZ
set_option maxHeartbeats 8000000
set_option maxRecDepth 100000
mutual
def b_tens.l0 : Nat → List Int → Int → Option (List Int)
 | 0,_,_ => none
 | k + 1,x0,x1 => if x1 ≥ 9 then ((b_times.f k x0 1000000000 0).bind fun t149 => (b_tens.l0 k t149 (wrap64 (x1 - 9)))) else (b_tens.l1 k x0 x1 0)
def b_tens.l1 : Nat → List Int → Int → Int → Option (List Int)
 | 0,_,_,_ => none
 | k + 1,x0,x11,x12 => if x12 < x11 then ((b_times.f k x0 10 0).bind fun t152 => (b_tens.l1 k t152 x11 (wrap64 (x12 + 1)))) else (some x0)
end
def b_tens.f (k : Nat) (l0 : List Int) (a1 : Int) : Option (List Int) := b_tens.l0 k l0 a1
theorem b_tens.mono_l : ∀ k,(∀ y0 y1,LeO (b_tens.l0 k y0 y1) (b_tens.l0 (k + 1) y0 y1)) ∧ (∀ y0 y1 y2,LeO (b_tens.l1 k y0 y1 y2) (b_tens.l1 (k + 1) y0 y1 y2))
 | 0 => ⟨fun _ _ r h => by simp [b_tens.l0] at h,fun _ _ _ r h => by simp [b_tens.l1] at h⟩
 | k + 1 => by
  obtain ⟨ih0,ih1⟩ := b_tens.mono_l k;refine ⟨?_,?_⟩
  all_goals intros
  all_goals first | unfold b_tens.l0 | unfold b_tens.l1
  all_goals repeat' first
   | (with_reducible exact ih0 _ _)
   | (with_reducible exact ih1 _ _ _)
   | (with_reducible exact b_times.mono _ _ _ _)
   | (with_reducible exact LeO.refl _)
   | (with_reducible exact LeO.none _)
   | (with_reducible refine LeO.ite ?_ ?_)
   | (with_reducible refine LeO.bind ?_ (fun _ => ?_))
   | exact ih0 _ _
   | exact ih1 _ _ _
   | exact b_times.mono _ _ _ _
   | exact LeO.none _
   | refine LeO.ite ?_ ?_
   | refine LeO.bind ?_ (fun _ => ?_)
theorem b_tens.mono : ∀ a0 a1 k,LeO (b_tens.f k a0 a1) (b_tens.f (k + 1) a0 a1) := by
 intro a0 a1 k;obtain ⟨ih0,ih1⟩ := b_tens.mono_l k;unfold b_tens.f
 repeat' first
   | (with_reducible exact ih0 _ _)
   | (with_reducible exact ih1 _ _ _)
   | (with_reducible exact b_times.mono _ _ _ _)
   | (with_reducible exact LeO.refl _)
   | (with_reducible exact LeO.none _)
   | (with_reducible refine LeO.ite ?_ ?_)
   | (with_reducible refine LeO.bind ?_ (fun _ => ?_))
   | exact ih0 _ _
   | exact ih1 _ _ _
   | exact b_times.mono _ _ _ _
   | exact LeO.none _
   | refine LeO.ite ?_ ?_
   | refine LeO.bind ?_ (fun _ => ?_)
theorem b_tens.calls (k : Nat) (P0_ : Nat → Prop) (A0 : Option Addr) (c0 : Nat) (l0 : List Int) (a1 : Int) (r : List Int) (w : World) (hs0 : Kd.V (Kd.int .u32) 72 w w.heap.size (fun k_ => P0_ k_) (.slice A0 l0.length c0) l0) (h : b_tens.f k l0 a1 = some r) :
  Calls Tryz.prog 56 #[.slice A0 l0.length c0,.int .i64 a1] w fun e w' => ∃ v0_ : Value,e = .returned (v0_) ∧ Kd.V (Kd.int .u32) 72 w' w.heap.size (fun k_ => (P0_ k_ ∨ w.heap.size ≤ k_)) v0_ r ∧ Below w.heap.size w w' := by
 have aV := am (show Kd.V (Kd.int .u32) 72 w w.heap.size (fun k_ => (P0_ k_ ∨ w.heap.size ≤ k_)) (.slice A0 l0.length c0) l0 from Kd.zQi hs0 (fun k_ hk => .inl hk));have HB := am (Below.refl w.heap.size w);have H : (b_tens.l0 k l0 a1) = some r := h;clear h;have H' := am H;clear H;go_enter Tryz.func56,Tryz.ntmps56;go_wp2
 go_loopg [0,1] k (fun kq v0 v1 w' => ∃ (aG : List Int) (aC : Int),v1 = .int .i64 aC ∧ Aside0 (b_tens.l0 kq aG aC = some r) ∧ Aside0 (kq ≤ k) ∧ Aside0 (Kd.V (Kd.int .u32) 72 w' w.heap.size (fun k_ => (P0_ k_ ∨ w.heap.size ≤ k_)) v0 aG) ∧ Aside0 (Below w.heap.size w w'))
 case atStart => exact ⟨(l0),(a1),pS,H',⟨Nat.le_refl _⟩,⟨by (with_reducible repeat (first | apply Kd.V_alloc | apply Kd.zQk | apply Kd.zQm));exact aV.out⟩,⟨pB⟩⟩
 case round =>
  clear H';(try clear p2);obtain ⟨aG,aC,rfl,HA,aI,aA,HB⟩ := hrel
  cases gk with
  | zero => exact absurd HA.out (by simp [b_tens.l0])
  | succ k1 =>
   have H := HA.out;clear HA;simp only [b_tens.l0] at H;rcases iT H with ⟨c3,H⟩ | ⟨c3,H⟩
   ·have aJ : decide (9 ≤ aC) = true := decide_eq_true c3;clear c3;obtain ⟨aK,A4,H⟩ := oB H;(try dsimp only at H);have H' := am H;clear H;obtain ⟨aW,aX,aY⟩ := Kd.zQw aA.out;subst aY;go_wp2_with (first | ((with_reducible refine zQb (f := 54) rfl ?_);refine zQh (some 10) rfl rfl Tryz.func54 (by kernel_rfl) rfl #[.slice aW aG.length aX,.int .u32 1000000000,.int .u32 0] rfl pM ?_;(with_reducible refine (b_times.calls k1 _ _ aG 1000000000 0 aK _ ?side1 ?side2 A4.out).mono ?_);(case side1 => exact pC (Kd.zQf aA.out).2.2);(case side2 => exact (Kd.zQf aA.out).2.1);rintro e w6 ⟨bC,rfl,ho0,hb⟩;refine ⟨_,rfl,?_⟩;replace aA := am (Kd.zQj (pV aA.out) hb);have aN := am (Kd.zQM (Kd.zQi (ok' := fun k_ => (P0_ k_ ∨ w.heap.size ≤ k_)) ho0 (fun k_ hk_ => (.inr (Nat.le_trans (zQa pB) hk_)))) (zQa pB));replace HB := bS hb;(try clear hb);(try clear ho0)))
    go_roundg k1
    case measure => have := aI.out;omega
    case rel => exact ⟨(aK),(wrap64 (aC - 9)),pS,H',⟨by have := aI.out;omega⟩,⟨by (with_reducible repeat (first | apply Kd.V_alloc | apply Kd.zQk | apply Kd.zQm));exact aN.out⟩,⟨pB⟩⟩
   ·have aJ : decide (9 ≤ aC) = false := decide_eq_false c3;clear c3;have H' := am H;clear H;go_wp2
    go_loopg [0,12] k1 (fun kq v0 v12 w' => ∃ (aH : List Int) (aD : Int),v12 = .int .i64 aD ∧ Aside0 (b_tens.l1 kq aH aC aD = some r) ∧ Aside0 (kq ≤ k1) ∧ Aside0 (Kd.V (Kd.int .u32) 72 w' w.heap.size (fun k_ => (P0_ k_ ∨ w.heap.size ≤ k_)) v0 aH) ∧ Aside0 (Below w.heap.size w w'))
    case atStart => exact ⟨(aG),(0),pS,H',⟨Nat.le_refl _⟩,⟨by (with_reducible repeat (first | apply Kd.V_alloc | apply Kd.zQk | apply Kd.zQm));exact aA.out⟩,⟨pB⟩⟩
    case round =>
     clear H';(try clear p2);(try clear c3);(try clear aJ);(try clear c5);(try clear p6);(try clear p2);obtain ⟨aH,aD,rfl,HA,aT,aA,HB⟩ := hrel
     cases gk with
     | zero => exact absurd HA.out (by simp [b_tens.l1])
     | succ k2 =>
      have H := HA.out;clear HA;simp only [b_tens.l1] at H;rcases iT H with ⟨c7,H⟩ | ⟨c7,H⟩
      ·have aU : decide (aD < aC) = true := decide_eq_true c7;clear c7;obtain ⟨aM,A8,H⟩ := oB H;(try dsimp only at H);have H' := am H;clear H;obtain ⟨aZ,bA,bB⟩ := Kd.zQw aA.out;subst bB;go_wp2_with (first | ((with_reducible refine zQb (f := 54) rfl ?_);refine zQh (some 15) rfl rfl Tryz.func54 (by kernel_rfl) rfl #[.slice aZ aH.length bA,.int .u32 10,.int .u32 0] rfl pM ?_;(with_reducible refine (b_times.calls k2 _ _ aH 10 0 aM _ ?side1 ?side2 A8.out).mono ?_);(case side1 => exact pC (Kd.zQf aA.out).2.2);(case side2 => exact (Kd.zQf aA.out).2.1);rintro e bF ⟨bE,rfl,ho0,hb⟩;refine ⟨_,rfl,?_⟩;replace aA := am (Kd.zQj (pV aA.out) hb);have aQ := am (Kd.zQM (Kd.zQi (ok' := fun k_ => (P0_ k_ ∨ w.heap.size ≤ k_)) ho0 (fun k_ hk_ => (.inr (Nat.le_trans (zQa pB) hk_)))) (zQa pB));replace HB := bS hb;(try clear hb);(try clear ho0)))
       go_roundg k2
       case measure => have := aI.out;have := aT.out;omega
       case rel => exact ⟨(aM),(wrap64 (aD + 1)),pS,H',⟨by have := aI.out;have := aT.out;omega⟩,⟨by (with_reducible repeat (first | apply Kd.V_alloc | apply Kd.zQk | apply Kd.zQm));exact aQ.out⟩,⟨pB⟩⟩
      ·have aU : decide (aD < aC) = false := decide_eq_false c7;clear c7;obtain rfl := Option.some.inj H;go_wp2
       go_ret
       exact ⟨_,pE,by (with_reducible repeat (first | apply Kd.V_alloc | apply Kd.zQk | apply Kd.zQm));exact aA.out,pB⟩
def b_len.f (l0 : List Int) : Option (Int) := if (l0.length : Int) = 0 then (some 0) else (if 0 ≤ (wrap64 ((l0.length : Int) - 1)) then (if (wrap64 ((l0.length : Int) - 1)) < (l0.length : Int) then ((bits_Len32.f (rd l0 (wrap64 ((l0.length : Int) - 1)))).bind fun t156 => (some (wrap64 ((wrap64 (32 * (wrap64 ((l0.length : Int) - 1)))) + t156)))) else (none)) else (none))
theorem b_len.calls (A0 : Option Addr) (c0 : Nat) (l0 : List Int) (r : Int) (w : World) (hr0 : Kd.C (Kd.int .u32) w A0 l0.length l0) (hc0 : l0.length ≤ c0) (h : b_len.f l0 = some r) :
  Calls Tryz.prog 57 #[.slice A0 l0.length c0] w fun e w' => e = .returned (.int .i64 r) ∧ Drawn0 w w' := by
 have HR0 := am hr0;have HC0 := am hc0;clear hr0 hc0;have H := h;unfold b_len.f at H;clear h;rcases iT H with ⟨c2,H⟩ | ⟨c2,H⟩
 ·have aI : ((l0.length : Int) == 0) = true := beq_iff_eq.mpr c2;have aJ : ((l0.length : Int) != 0) = false := bne_eq_false_iff_eq.mpr c2;clear c2;obtain rfl := Option.some.inj H;go_enter Tryz.func57,Tryz.ntmps57;go_wp2
  go_ret
  exact ⟨pS,pQ0⟩
 ·have aI : ((l0.length : Int) == 0) = false := beq_eq_false_iff_ne.mpr c2;have aJ : ((l0.length : Int) != 0) = true := bne_iff_ne.mpr c2;(have aN : ¬ (l0 = []) := fun h_ => c2 (by rw [h_];rfl));obtain ⟨aA,aC⟩ : ∃ j_ : Int,(wrap64 ((l0.length : Int) - 1)) = j_ := ⟨_,rfl⟩;(replace H : (if 0 ≤ (aA) then (if (aA) < (l0.length : Int) then ((bits_Len32.f (rd l0 (aA))).bind fun aD => (some (wrap64 ((wrap64 (32 * (aA))) + aD)))) else (none)) else (none)) = some r := by first | (rw [aC] at H;exact H) | (simp only [aC] at H ⊢;exact H));have aM : (IntKind.i64.wrap ((l0.length : Int) - 1)) = aA := (i64_w _).trans aC;obtain ⟨c4,H⟩ := iN H;have aQ : decide (0 ≤ (aA)) = true := decide_eq_true c4;clear c4;obtain ⟨c5,H⟩ := iN H;have aT : decide ((aA) < (l0.length : Int)) = true := decide_eq_true c5;clear c5;obtain ⟨aD,A6,H⟩ := oB H;(try dsimp only at H);obtain rfl := Option.some.inj H;have aG : 0 ≤ ((aA) : Int) := pD;have aH : (aA) < (l0.length : Int) := pD;obtain ⟨ad155,e155,aK⟩ := Kd.zXi HR0.out (aA) aG aH
  cases e155
  replace aG := eq_true aG;replace aH := eq_true aH;go_enter Tryz.func57,Tryz.ntmps57;go_wp2_with (first | ((with_reducible refine zQb (f := 88) rfl ?_);refine zQh (some 16) rfl rfl Tryz.func88 (by kernel_rfl) rfl #[.int .u32 (rd l0 (aA))] rfl (by (try simp only [List.map_toArray,List.map_cons,List.map_nil]);first | done | (simp only [aC];rfl) | rfl | (simp only [List.length_drop,List.length_take];rfl)) ?_;(with_reducible refine (bits_Len32.calls (rd l0 (aA)) aD _ A6.out).mono ?_);rintro e w' ⟨rfl,⟨nd,rfl⟩⟩;refine ⟨_,rfl,?_⟩))
  go_ret
  exact ⟨by first | rfl | (simp;done) | (simp only [← aC] <;> (first | rfl | simp)) | (simp [*];done),pQ0⟩
def b_up.f (k : Nat) (l0 : List Int) (a1 : Int) : Option (List Int) := if 0 ≤ (wrap64 (Int.tdiv a1 32)) then (if wrap64 (Int.tdiv a1 32) ≤ wrap64 ((wrap64 ((wrap64 (Int.tdiv a1 32)) + (l0.length : Int))) + 1) then (if (wrap64 ((wrap64 ((wrap64 (Int.tdiv a1 32)) + (l0.length : Int))) + 1) : Int).toNat ≤ 70368744177664 then ((some (List.replicate (wrap64 (Int.tdiv a1 32) : Int).toNat 0 : List Int)).bind fun y157 => (if y157.length + l0.length < 35184372088832 then ((some (y157 ++ l0 : List Int)).bind fun y160 => (if (wrap64 (Int.tdiv a1 32)) ≤ (y160.length : Int) then (if 0 ≤ (Int.tmod a1 32) then ((b_times.f k (y160.drop ((wrap64 (Int.tdiv a1 32)) : Int).toNat) (shl .u32 1 (Int.tmod a1 32)) 0).bind fun t173 => ((slices_Concat.f (([(y160.take ((wrap64 (Int.tdiv a1 32)) : Int).toNat),t173] : List (List Int)))).bind fun t179 => (some t179))) else (none)) else (none))) else (none))) else (none)) else (none)) else (none)
theorem b_up.mono : ∀ a0 a1 k,LeO (b_up.f k a0 a1) (b_up.f (k + 1) a0 a1) := by
 intro a0 a1 k;unfold b_up.f
 repeat' first
   | (with_reducible exact b_times.mono _ _ _ _)
   | (with_reducible exact LeO.refl _)
   | (with_reducible exact LeO.none _)
   | (with_reducible refine LeO.ite ?_ ?_)
   | (with_reducible refine LeO.bind ?_ (fun _ => ?_))
   | exact b_times.mono _ _ _ _
   | exact LeO.none _
   | refine LeO.ite ?_ ?_
   | refine LeO.bind ?_ (fun _ => ?_)
def b_up.T3 : Bool × List (List Nat × List Nat) := (true,[([],[]),([],[]),([1],[1]),([0,2],[0,2]),([],[]),([],[]),([5],[5]),([4,6],[4,6]),([],[]),([8],[8]),([9],[9]),([7,10],[7,10]),([3,11],[3,11]),([12,11],[12]),([13,13,0,1,2,3,4,5,6,7,8,9,10,11,12,13],[13])])
def b_up.B3 : List Nat := [0,0,2,7,0,0,32,112,0,256,768,2032,4095,8191,16383]
theorem b_up.tab3 : rtab .any (opsOf Tryz.f58 3) = b_up.T3 := by kernel_rfl
theorem b_up.bits3 : zXK b_up.T3.2 b_up.B3 = true := by kernel_rfl
theorem b_up.calls (k : Nat) (A0 : Option Addr) (c0 : Nat) (l0 : List Int) (a1 : Int) (r : List Int) (w : World) (hr0 : Kd.C (Kd.int .u32) w A0 l0.length l0) (hc0 : l0.length ≤ c0) (h : b_up.f k l0 a1 = some r) :
  Calls Tryz.prog 58 #[.slice A0 l0.length c0,.int .i64 a1] w fun e w' => ∃ v0_ : Value,e = .returned (v0_) ∧ Kd.R (Kd.int .u32) 72 w' w.heap.size (fun _ => True) v0_ r ∧ Below w.heap.size w w' := by
 have HR0 := am hr0;have HC0 := am hc0;clear hr0 hc0;have HB := am (Below.refl w.heap.size w);have H := h;unfold b_up.f at H;clear h;obtain ⟨aA,bA⟩ : ∃ j_ : Int,(wrap64 (Int.tdiv a1 32)) = j_ := ⟨_,rfl⟩;(replace H : (if 0 ≤ (aA) then (if aA ≤ wrap64 ((wrap64 ((aA) + (l0.length : Int))) + 1) then (if (wrap64 ((wrap64 ((aA) + (l0.length : Int))) + 1) : Int).toNat ≤ 70368744177664 then ((some (List.replicate (aA : Int).toNat 0 : List Int)).bind fun aX => (if aX.length + l0.length < 35184372088832 then ((some (aX ++ l0 : List Int)).bind fun aC => (if (aA) ≤ (aC.length : Int) then (if 0 ≤ (Int.tmod a1 32) then ((b_times.f k (aC.drop ((aA) : Int).toNat) (shl .u32 1 (Int.tmod a1 32)) 0).bind fun aG => ((slices_Concat.f (([(aC.take ((aA) : Int).toNat),aG] : List (List Int)))).bind fun aH => (some aH))) else (none)) else (none))) else (none))) else (none)) else (none)) else (none)) = some r := by first | (rw [bA] at H;exact H) | (simp only [bA] at H ⊢;exact H));have dJ : (IntKind.i64.wrap (Int.tdiv a1 32)) = aA := (i64_w _).trans bA;obtain ⟨c4,H⟩ := iN H;have dO := eq_true c4;have dP : decide (0 ≤ (aA)) = true := decide_eq_true c4;clear c4;obtain ⟨c5,H⟩ := iN H;have dQ := eq_true c5;have dR : decide (aA ≤ wrap64 ((wrap64 ((aA) + (l0.length : Int))) + 1)) = true := decide_eq_true c5;obtain ⟨c6,H⟩ := iN H;have dS := eq_true c6;have dU : decide ((wrap64 ((wrap64 ((aA) + (l0.length : Int))) + 1) : Int).toNat ≤ 70368744177664) = true := decide_eq_true c6;obtain ⟨aX,bB⟩ : ∃ y_ : List Int,y_ = (List.replicate (aA : Int).toNat 0) := ⟨_,rfl⟩;replace H : (if aX.length + l0.length < 35184372088832 then ((some (aX ++ l0 : List Int)).bind fun aC => (if (aA) ≤ (aC.length : Int) then (if 0 ≤ (Int.tmod a1 32) then ((b_times.f k (aC.drop ((aA) : Int).toNat) (shl .u32 1 (Int.tmod a1 32)) 0).bind fun aG => ((slices_Concat.f (([(aC.take ((aA) : Int).toNat),aG] : List (List Int)))).bind fun aH => (some aH))) else (none)) else (none))) else (none)) = some r := pI bB H;have bK := am bB;clear bB;obtain ⟨c7,H⟩ := iN H;have dA := am c7;clear c7;obtain ⟨aC,bC⟩ : ∃ y_ : List Int,y_ = (aX ++ l0) := ⟨_,rfl⟩;replace H : (if (aA) ≤ (aC.length : Int) then (if 0 ≤ (Int.tmod a1 32) then ((b_times.f k (aC.drop ((aA) : Int).toNat) (shl .u32 1 (Int.tmod a1 32)) 0).bind fun aG => ((slices_Concat.f (([(aC.take ((aA) : Int).toNat),aG] : List (List Int)))).bind fun aH => (some aH))) else (none)) else (none)) = some r := pI bC H;have cO := am bC;clear bC;have dV := eq_true (pD : 0 ≤ (aA));obtain ⟨c9,H⟩ := iN H;have dW := eq_true c9;have dX : decide ((aA) ≤ (aC.length : Int)) = true := decide_eq_true c9;clear c9;obtain ⟨aK,bE⟩ : ∃ y_ : List Int,y_ = (aC.take ((aA) : Int).toNat) := ⟨_,rfl⟩;replace H : (if 0 ≤ (Int.tmod a1 32) then ((b_times.f k (aC.drop ((aA) : Int).toNat) (shl .u32 1 (Int.tmod a1 32)) 0).bind fun aG => ((slices_Concat.f (([aK,aG] : List (List Int)))).bind fun aH => (some aH))) else (none)) = some r := pI bE H;have bL := am bE;clear bE;have dK := eq_true (pD : 0 ≤ (aA));have dL := eq_true (pD : (aA) ≤ (aC.length : Int));obtain ⟨aM,bF⟩ : ∃ y_ : List Int,y_ = (aC.drop ((aA) : Int).toNat) := ⟨_,rfl⟩;replace H : (if 0 ≤ (Int.tmod a1 32) then ((b_times.f k aM (shl .u32 1 (Int.tmod a1 32)) 0).bind fun aG => ((slices_Concat.f (([aK,aG] : List (List Int)))).bind fun aH => (some aH))) else (none)) = some r := pI bF H;have bM := am bF;clear bF;obtain ⟨aT,bG⟩ : ∃ j_ : Int,(Int.tmod a1 32) = j_ := ⟨_,rfl⟩;(replace H : (if 0 ≤ (aT) then ((b_times.f k aM (shl .u32 1 (aT)) 0).bind fun aG => ((slices_Concat.f (([aK,aG] : List (List Int)))).bind fun aH => (some aH))) else (none)) = some r := by first | (rw [bG] at H;exact H) | (simp only [bG] at H ⊢;exact H));obtain ⟨bP,H⟩ := iN H;have dM := eq_true bP;have dN : decide (0 ≤ (aT)) = true := decide_eq_true bP;clear bP;obtain ⟨aY,aV⟩ : ∃ j_ : Int,(shl .u32 1 (aT)) = j_ := ⟨_,rfl⟩;(replace H : ((b_times.f k aM (aY) 0).bind fun aG => ((slices_Concat.f (([aK,aG] : List (List Int)))).bind fun aH => (some aH))) = some r := by first | (rw [aV] at H;exact H) | (simp only [aV] at H ⊢;exact H));have hji14_ : (IntKind.u32.wrap (1 * 2 ^ min (aT).toNat 32)) = aY := aV;have hji14z : (aT) ≤ 32 → (IntKind.u32.wrap (1 * 2 ^ (aT).toNat)) = aY := zXN aV;(have hji14u : (IntKind.u32.wrap (2 ^ min (aT).toNat 32)) = aY := by have h_ := hji14_;rw [Int.one_mul] at h_;exact h_);(have hji14v : (aT) ≤ 32 → (IntKind.u32.wrap (2 ^ (aT).toNat)) = aY := fun hle_ => by have h_ := hji14z hle_;rw [Int.one_mul] at h_;exact h_);obtain ⟨aG,dF,H⟩ := oB H;(try dsimp only at H);obtain ⟨bI,bH⟩ : ∃ y_ : List (List Int),y_ = (([aK,aG] : List (List Int))) := ⟨_,rfl⟩;replace H : ((slices_Concat.f bI).bind fun aH => (some aH)) = some r := pI bH H;have bN := am bH;clear bH;obtain ⟨aH,dG,H⟩ := oB H;(try dsimp only at H);obtain rfl := Option.some.inj H;go_enter Tryz.func58,Tryz.ntmps58;(try go_wp2_with (first | ((with_reducible refine zQq (N := 14) rfl ?_);refine zKN (Kd.int .u32) _ 72 rfl (N := 14) rfl 70 _ _ rfl aA (wrap64 ((wrap64 ((aA) + (l0.length : Int))) + 1)) rfl rfl Tryz.underlying70 (.int .u32 0) 4 zXO rfl (by decide) (by omega) 0 (ok := fun _ => True) (okp := fun _ => True) rfl (fun _ hk => hk) trivial pD pD (Nat.le_trans (Nat.mul_le_mul_right _ (pD : (wrap64 ((wrap64 ((aA) + (l0.length : Int))) + 1)).toNat ≤ 70368744177664)) (by omega)) (Below.refl _ _) (Nat.le_refl _) ?_;intro dB eF ho18 hb hg_ hnew_;clear hg_ hnew_;(first | rw [← bK.out] at ho18 | (simp only [Int.reduceToNat] at ho18;rw [← bK.out] at ho18));have bO := am (Kd.zQr ho18 (zQa pB));replace HB := bS hb;clear hb ho18) | ((with_reducible refine zQu (b := .append) (xs := #[.tmp 15,.tmp 16]) rfl ?_);at_builtin;refine Kd.zXH (Kd.int .u32) (w0 := w) w.heap.size rfl (.tmp 15) (.tmp 16) 70 72 (.int .u32 0) 4 rfl Tryz.underlying70 zXO rfl (by decide) (by omega) dB aX l0 _ _ _ (fun _ => True) (fun _ => False) rfl rfl ?aO ?aR (fun _ _ h => h) (fun _ h => h.elim) ?aF ?aB ?aS ?aL ?_;(case aR => exact pC (Kd.zQL HR0.out HB.out));(case aB => exact pB);(case aF => exact (fun _ _ => trivial));(case aO => exact (pR bO.out));(case aS => exact (zQa pB));(case aL => have := dA.out;omega);intro dY dH ho hb hg hat;rw [← cO.out] at ho;replace HB := am (hb);have aD := am (ho);clear bO;clear ho hb hg hat)));replace aD := am (Kd.zQs aD.out);replace HB := am (zQC HB.out);obtain ⟨aU,aN,bQ⟩ := Kd.zQv aD.out;(first | subst bQ | (injection bQ with f1_ f2_ f3_;have f4_ := f1_.symm;have f5_ := f3_.symm;clear f1_ f2_ f3_;subst f4_;subst f5_));have bT : ((aA) : Int) ≤ ((aC.length : Int) : Int) := pD;obtain ⟨i021,hi021,_,hsz21,_⟩ := info_parts zXO;have hroom21 : aC.length ≤ aN := (Kd.zQg aD.out).2.1;have hC21 : Kd.F (Kd.int .u32) _ _ aU aC.length aC := (Kd.V_at (base := w.heap.size) (Kd.R_V aD.out)).2.2;have hcut21 := zHM (P := Tryz.prog) 70 72 .i64 Tryz.underlying70 hi021 aU aC.length aN (aA) pD bT hroom21;have hr21 := Kd.zHO (m := ((aA) : Int).toNat) hC21 (by omega);have bJ : aK.length = ((aA) : Int).toNat := (by rw [bL.out,List.length_take];omega);rw [← bL.out] at hr21;rw [← bJ] at hcut21;have aI := am (show Kd.V (Kd.int .u32) 72 _ w.heap.size _ (.slice aU aK.length aN) aK from Kd.V_mk (by omega) hr21);have HC167 := am (show aK.length ≤ aN from by omega);clear hr21 hC21 hroom21 hi021 hsz21;have KY21 := am bJ;clear bJ;replace bT := eq_true bT;have bV : ((aA) : Int) ≤ ((aC.length : Int) : Int) := pD;obtain ⟨i023,hi023,_,hsz23,_⟩ := info_parts zXO;have hroom23 : aC.length ≤ aN := (Kd.zQg aD.out).2.1;have hC23 : Kd.F (Kd.int .u32) _ _ aU aC.length aC := (Kd.V_at (base := w.heap.size) (Kd.R_V aD.out)).2.2;have dC : (0 : Int) ≤ ((aA) : Int) := pD;have hcut23 := zHk (P := Tryz.prog) 70 72 .i64 Tryz.underlying70 hi023 1 hsz23 aU aC.length aN (aA) dC bV;have hr23 := Kd.F_cut (m := ((aA) : Int).toNat) (c := aN) hC23 (by omega) hroom23;obtain ⟨bW,hA23⟩ : ∃ A1,A1 = (if aN = ((aA) : Int).toNat then aU else (aU : Option Addr).map (·.add (((aA) : Int).toNat * 1))) := ⟨_,rfl⟩;obtain ⟨bX,hc23⟩ : ∃ c1,c1 = aN - ((aA) : Int).toNat := ⟨_,rfl⟩;have aZ : aM.length = aC.length - ((aA) : Int).toNat := (by rw [bM.out,List.length_drop] <;> omega);rw [show (aC).drop ((aA) : Int).toNat = aM from bM.out.symm] at hr23;replace hr23 : Kd.F (Kd.int .u32) _ _ bW aM.length aM := (by rw [hA23];exact hr23);rw [← aZ,← hA23,← hc23] at hcut23;have aJ := am (show Kd.V (Kd.int .u32) 72 _ w.heap.size _ (.slice bW aM.length bX) aM from Kd.V_mk (by rw [aZ,hc23];exact Nat.sub_le_sub_right hroom23 _) hr23);have HC172 := am (show aM.length ≤ bX from by rw [aZ,hc23];exact Nat.sub_le_sub_right hroom23 _);clear hr23 hC23 hroom23 hi023 hsz23 hc23;have KY23 := am aZ;have KA23 := am hA23;clear aZ hA23;replace bV := eq_true bV;refine zXS (n := 15) (S := fun w' => True) (ds := []) (bm 15 0) (by kernel_rfl) rfl rfl trivial (fun hHeld => ?_);refine zXj b_up.tab3 b_up.bits3 (fun HT_ HW_ => ?_);generalize dH.drew = eG at aD HB aI aJ hHeld ⊢
 refine puA 0 (some 18) ?_ (bm 15 1) rfl rfl HT_.out (Or.inl ⟨by kernel_rfl,?_⟩) ?_ ?_ ?_
 rotate_left;(intro w';go_simp;with_reducible rfl);rotate_left;exact pA
 refine puA 1 (some 19) ?_ (bm 15 3) rfl rfl HT_.out (Or.inl ⟨by kernel_rfl,?_⟩) ?_ ?_ ?_
 rotate_left;(intro w';go_simp;with_reducible rfl);rotate_left;exact pA
 refine puA 2 (some 20) ?_ (bm 15 7) rfl rfl HT_.out (Or.inl ⟨by kernel_rfl,?_⟩) ?_ ?_ ?_
 rotate_left;(intro w';go_simp;with_reducible rfl);rotate_left;exact pA
 refine puA 3 (some 21) ?_ (bm 15 15) rfl rfl HT_.out (Or.inl ⟨by kernel_rfl,?_⟩) ?_ ?_ ?_
 rotate_left;(intro w';go_simp;with_reducible rfl);rotate_left;exact pA
 refine puA 4 (some 22) ?_ (bm 15 31) rfl rfl HT_.out (Or.inl ⟨by kernel_rfl,?_⟩) ?_ ?_ ?_
 rotate_left;(intro w';go_simp;with_reducible rfl);rotate_left;exact pA
 refine puA 5 (some 23) ?_ (bm 15 63) rfl rfl HT_.out (Or.inl ⟨by kernel_rfl,?_⟩) ?_ ?_ ?_
 rotate_left;(intro w';go_simp;with_reducible rfl);rotate_left;exact pA
 refine puA 6 (some 24) ?_ (bm 15 127) rfl rfl HT_.out (Or.inl ⟨by kernel_rfl,?_⟩) ?_ ?_ ?_
 rotate_left;(intro w';go_simp;with_reducible rfl);rotate_left;exact pA
 refine puA 7 (some 25) ?_ (bm 15 255) rfl rfl HT_.out (Or.inl ⟨by kernel_rfl,?_⟩) ?_ ?_ ?_
 rotate_left;(intro w';go_simp;with_reducible rfl);rotate_left;exact pA
 refine puA 8 (some 26) ?_ (bm 15 511) rfl rfl HT_.out (Or.inl ⟨by kernel_rfl,?_⟩) ?_ ?_ ?_
 rotate_left;(intro w';go_simp;with_reducible rfl);rotate_left;exact pA
 refine puA 9 (some 27) ?_ (bm 15 1023) rfl rfl HT_.out (Or.inl ⟨by kernel_rfl,?_⟩) ?_ ?_ ?_
 rotate_left;(intro w';go_simp;with_reducible rfl);rotate_left;exact pA
 refine puA 10 (some 28) ?_ (bm 15 2047) rfl rfl HT_.out (Or.inl ⟨by kernel_rfl,?_⟩) ?_ ?_ ?_
 rotate_left;(intro w';go_simp;with_reducible rfl);rotate_left;exact pA;refine one_ (i := 11) (N := some 29) (bm 15 4095) rfl rfl (zQJ HT_.out (by kernel_rfl)) (by decide) (fun K hK => ?_)
 refine goes_ Tryz.func54 (by kernel_rfl) rfl #[.slice bW aM.length bX,.int .u32 aY,.int .u32 0] (by rfl) rfl rfl (by (try simp only [List.map_toArray,List.map_cons,List.map_nil]);first | done | (simp only [aV];rfl) | rfl | (simp only [List.length_drop,List.length_take];rfl)) ?_
 with_reducible refine (b_times.calls k _ _ aM aY 0 aG _ ?side1 ?side2 dF.out).mono ?_
 (case side1 => exact pC (Kd.zQf aJ.out).2.2);(case side2 => exact (Kd.zQf aJ.out).2.1);rintro e dI ⟨dZ,rfl,ho0,hb⟩;refine ⟨_,rfl,?_⟩;have n0_ := am (Kd.zQD (pR aD.out) hb);have n1_ := am (Kd.zQj (pV aI.out) hb);have n2_ := am (Kd.zQj (pV aJ.out) hb);have n3_ := am (Kd.zQM (Kd.zQi (ok' := fun k_ => some k_ ≠ (.slice aU aC.length aN : Value).ownBlock) ho0 (fun k_ hk_ => (Kd.fresh' (Kd.R_lt (pR aD.out)) k_ hk_))) (zQa pB));have n4_ := bS hb;clear aD aI aJ HB;have aD := n0_;have aI := n1_;have aJ := n2_;have aQ := n3_;have HB := n4_;clear n0_ n1_ n2_ n3_ n4_;(try clear hb);(try clear ho0);obtain ⟨bY,bZ,cB⟩ := Kd.zQw aQ.out;(first | subst cB | (injection cB with f1_ f2_ f3_;have f4_ := f1_.symm;have f5_ := f3_.symm;clear f1_ f2_ f3_;subst f4_;subst f5_));refine hK.out _ _ trivial (fun hHeld => ?_);clear hK K
 refine norm_ (a' := ?_) ?_ ?_
 rotate_left;(show Act.put _ (some 29) _ = _;exact pA);refine one_ (i := 12) (N := some 30) (bm 15 8191) rfl rfl (zQJ HT_.out (by kernel_rfl)) (by decide) (fun K hK => ?_);refine Kd.zVl (Kd.slice 72 (Kd.int .u32)) _ 70 ?hg (N' := 30) ?hd (xs := ([aK,aG] : List (List Int))) (inner := [.slice aU aK.length aN,.slice bY aG.length bZ]) (ok := (fun _ => True)) (okp := (fun _ => True)) ?hr ?hp (fun _ hk => hk) ((show ∀ k_,dI.heap.size ≤ k_ → (fun _ => True) k_ from fun k_ hk => trivial) _ (Nat.le_refl _)) (Below.refl _ _) (Nat.le_refl _) (by simp) ?_;(case hd => rfl);(case hg => rfl);(case hr => first | (go_simp;done) | (go_simp;rfl));(case hp => exact (Reps.one (show Kd.FK (Kd.slice 72 (Kd.int .u32)) _ _ aK [.slice aU aK.length aN] from (Kd.zKP (Kd.zQf (Kd.zQi (ok' := (fun _ => True)) (aI.out) (fun k_ hk => trivial))).2.1 (Kd.V_F (Kd.zQi (ok' := (fun _ => True)) (aI.out) (fun k_ hk => trivial))))) (Reps.one (show Kd.FK (Kd.slice 72 (Kd.int .u32)) _ _ aG [.slice bY aG.length bZ] from (Kd.zKP (Kd.zQf (Kd.zQi (ok' := (fun _ => True)) (aQ.out) (fun k_ hk => trivial))).2.1 (Kd.V_F (Kd.zQi (ok' := (fun _ => True)) (aQ.out) (fun k_ hk => trivial))))) (Reps.none _ _))));intro eB eH ho27 hb hg_ hnew_;clear hg_ hnew_;(first | rw [← bN.out] at ho27 | (simp only [Int.reduceToNat] at ho27;rw [← bN.out] at ho27));have n0_ := am (Kd.zQD (pR aD.out) hb);have n1_ := am (Kd.zQG (pV aI.out) (Kd.zGB ho27) hb);have n2_ := am (Kd.zQG (pV aJ.out) (Kd.zGB ho27) hb);have n3_ := am (Kd.zQG (pV aQ.out) (Kd.zGB ho27) hb);have n4_ := am (Kd.zFB ho27 (zQa pB));have n5_ := bS hb;clear aD aI aJ aQ HB;have aD := n0_;have aI := n1_;have aJ := n2_;have aQ := n3_;have aW := n4_;have HB := n5_;clear n0_ n1_ n2_ n3_ n4_ n5_ hb ho27;obtain ⟨dD,dE,cK⟩ := Kd.zFA aW.out;(first | subst cK | (injection cK with f1_ f2_ f3_;have f4_ := f1_.symm;have f5_ := f3_.symm;clear f1_ f2_ f3_;subst f4_;subst f5_));refine hK.out _ _ trivial (fun hHeld => ?_);clear hK K
 refine norm_ (a' := ?_) ?_ ?_
 rotate_left;(show Act.put _ (some 30) _ = _;exact pA);refine one_ (i := 13) (N := some 31) (bm 15 16383) rfl rfl (zQJ HT_.out (by kernel_rfl)) (by decide) (fun K hK => ?_)
 refine goes_ Tryz.func89 (by kernel_rfl) rfl #[.slice dD bI.length dE] (by rfl) rfl rfl pM ?_
 with_reducible refine (slices_Concat.calls _ _ bI aH _ ?side1 ?side2 dG.out).mono ?_
 (case side1 => exact pC (Kd.zBP aW.out).2.2);(case side2 => exact (Kd.zBP aW.out).2.1);rintro e eO ⟨eD,rfl,ho0,hb⟩;refine ⟨_,rfl,?_⟩;have n0_ := am (Kd.zQn (pR aD.out) (Kd.zQo ho0) hb);have n1_ := am (Kd.zQG (pV aI.out) (Kd.zQo ho0) hb);have n2_ := am (Kd.zQG (pV aJ.out) (Kd.zQo ho0) hb);have n3_ := am (Kd.zQG (pV aQ.out) (Kd.zQo ho0) hb);have n4_ := am (Kd.zHu (pN aW.out) (Kd.zQo ho0) hb);have n5_ := am (Kd.zQr (Kd.zQt ho0 (Kd.R_lt (pR aD.out))) (zQa pB));have n6_ := bS hb;clear aD aI aJ aQ aW HB;have aD := n0_;have aI := n1_;have aJ := n2_;have aQ := n3_;have aW := n4_;have cZ := n5_;have HB := n6_;clear n0_ n1_ n2_ n3_ n4_ n5_ n6_;(try clear hb);(try clear ho0);refine hK.out _ _ trivial (fun hHeld => ?_);clear hK K
 refine norm_ (a' := ?_) ?_ ?_
 rotate_left;(show Act.put _ (some 31) _ = _;exact pA)
 refine puA 14 (some 4) ?_ (bm 15 32767) rfl rfl HT_.out (Or.inl ⟨by kernel_rfl,?_⟩) ?_ ?_ ?_
 rotate_left;(intro w';go_simp;with_reducible rfl);rotate_left;exact pA
 refine done_ (zXI HT_.out (by kernel_rfl)) ?_
 try go_wp2
 go_ret
 exact ⟨_,by first | rfl | (simp [errW_none,errW_some] <;> rfl) | (simp only [← bA,← bG,← aV];first | rfl | (simp [errW_none,errW_some] <;> rfl)) | (simp [*,errW_none,errW_some] <;> rfl),by (with_reducible repeat (first | apply Kd.R_alloc | apply Kd.zQp | apply Kd.zQs));exact Kd.zQx cZ.out (fun _ hk => trivial),pB⟩
def b_cmp.l0 : Nat → List Int → List Int → Int → Option (Int)
 | 0,_,_,_ => none
 | k + 1,x0,x1,x5 => if x5 ≥ 0 then (if 0 ≤ x5 then (if x5 < (x0.length : Int) then (if x5 < (x1.length : Int) then (if (rd x0 x5) = (rd x1 x5) then (b_cmp.l0 k x0 x1 (wrap64 (x5 - 1))) else (if (rd x0 x5) < (rd x1 x5) then (some (-1)) else (some 1))) else (none)) else (none)) else (none)) else (some 0)
def b_cmp.f (k : Nat) (l0 : List Int) (l1 : List Int) : Option (Int) := if (l0.length : Int) = (l1.length : Int) then (b_cmp.l0 k l0 l1 (wrap64 ((l0.length : Int) - 1))) else (some (wrap64 ((l0.length : Int) - (l1.length : Int))))
theorem b_cmp.mono_l : ∀ k,(∀ y0 y1 y2,LeO (b_cmp.l0 k y0 y1 y2) (b_cmp.l0 (k + 1) y0 y1 y2))
 | 0 => fun _ _ _ r h => by simp [b_cmp.l0] at h
 | k + 1 => by
  have ih0 := b_cmp.mono_l k
  ·intro y0 y1 y2;unfold b_cmp.l0;repeat' first
   | (with_reducible exact ih0 _ _ _)
   | (with_reducible exact LeO.refl _)
   | (with_reducible exact LeO.none _)
   | (with_reducible refine LeO.ite ?_ ?_)
   | (with_reducible refine LeO.bind ?_ (fun _ => ?_))
   | exact ih0 _ _ _
   | exact LeO.none _
   | refine LeO.ite ?_ ?_
   | refine LeO.bind ?_ (fun _ => ?_)
theorem b_cmp.mono : ∀ a0 a1 k,LeO (b_cmp.f k a0 a1) (b_cmp.f (k + 1) a0 a1) := by
 intro a0 a1 k;have ih0 := b_cmp.mono_l k;unfold b_cmp.f
 repeat' first
   | (with_reducible exact ih0 _ _ _)
   | (with_reducible exact LeO.refl _)
   | (with_reducible exact LeO.none _)
   | (with_reducible refine LeO.ite ?_ ?_)
   | (with_reducible refine LeO.bind ?_ (fun _ => ?_))
   | exact ih0 _ _ _
   | exact LeO.none _
   | refine LeO.ite ?_ ?_
   | refine LeO.bind ?_ (fun _ => ?_)
theorem b_cmp.calls (k : Nat) (A0 : Option Addr) (c0 : Nat) (l0 : List Int) (A1 : Option Addr) (c1 : Nat) (l1 : List Int) (r : Int) (w : World) (hr0 : Kd.C (Kd.int .u32) w A0 l0.length l0) (hc0 : l0.length ≤ c0) (hr1 : Kd.C (Kd.int .u32) w A1 l1.length l1) (hc1 : l1.length ≤ c1) (h : b_cmp.f k l0 l1 = some r) :
  Calls Tryz.prog 74 #[.slice A0 l0.length c0,.slice A1 l1.length c1] w fun e w' => e = .returned (.int .i64 r) ∧ Drawn0 w w' := by
 have HR0 := am hr0;have HC0 := am hc0;clear hr0 hc0;have HR1 := am hr1;have HC1 := am hc1;clear hr1 hc1;have H := h;unfold b_cmp.f at H;clear h;rcases iT H with ⟨c3,H⟩ | ⟨c3,H⟩
 ·have aV : ((l0.length : Int) == (l1.length : Int)) = true := beq_iff_eq.mpr c3;have aW : ((l0.length : Int) != (l1.length : Int)) = false := bne_eq_false_iff_eq.mpr c3;(have aX : (l0.length == l1.length) = true := by first | simpa using c3 | (simp at c3 ⊢;omega));clear c3;have H' := am H;clear H;go_enter Tryz.func74,Tryz.ntmps74;go_wp2;repeat (go_quiet (fail);try go_wp2)
  go_loopg [5] k (fun kq v5 w' => ∃ (aA : Int),v5 = .int .i64 aA ∧ Aside0 (b_cmp.l0 kq l0 l1 aA = some r) ∧ Aside0 (kq ≤ k) ∧ Drawn0 w w')
  case atStart => exact ⟨(wrap64 ((l0.length : Int) - 1)),pS,H',⟨Nat.le_refl _⟩,pQ0⟩
  case round =>
   clear H';(try clear c1);(try clear p2);(try clear c3);(try clear aV);(try clear aW);(try clear aX);obtain ⟨aA,rfl,HA,aY,⟨m1,rfl⟩⟩ := hrel
   cases gk with
   | zero => exact absurd HA.out (by simp [b_cmp.l0])
   | succ k1 =>
    have H := HA.out;clear HA;simp only [b_cmp.l0] at H;rcases iT H with ⟨c4,H⟩ | ⟨c4,H⟩
    ·have aZ : decide (0 ≤ aA) = true := decide_eq_true c4;clear c4;obtain ⟨c5,H⟩ := iN H;have bE : decide (0 ≤ aA) = true := decide_eq_true c5;clear c5;obtain ⟨c6,H⟩ := iN H;have bF : decide (aA < (l0.length : Int)) = true := decide_eq_true c6;clear c6;obtain ⟨c7,H⟩ := iN H;have bG : decide (aA < (l1.length : Int)) = true := decide_eq_true c7;clear c7;rcases iT H with ⟨c8,H⟩ | ⟨c8,H⟩
     ·have bA : ((rd l0 aA) == (rd l1 aA)) = true := beq_iff_eq.mpr c8;have bB : ((rd l0 aA) != (rd l1 aA)) = false := bne_eq_false_iff_eq.mpr c8;clear c8;have H' := am H;clear H;have aC : 0 ≤ (aA : Int) := pD;have aD : aA < (l0.length : Int) := pD;obtain ⟨ad182,e182,aN⟩ := Kd.zXi HR0.out aA aC aD
      cases e182
      replace aC := eq_true aC;replace aD := eq_true aD;have aG : 0 ≤ (aA : Int) := pD;have aH : aA < (l1.length : Int) := pD;obtain ⟨ad183,e183,aQ⟩ := Kd.zXi HR1.out aA aG aH
      cases e183
      replace aG := eq_true aG;replace aH := eq_true aH;go_wp2;repeat (go_quiet (fail);try go_wp2)
      go_roundg k1
      case measure => have := aY.out;omega
      case rel => exact ⟨(wrap64 (aA - 1)),pS,H',⟨by have := aY.out;omega⟩,pQ0⟩
     ·have bA : ((rd l0 aA) == (rd l1 aA)) = false := beq_eq_false_iff_ne.mpr c8;have bB : ((rd l0 aA) != (rd l1 aA)) = true := bne_iff_ne.mpr c8;rcases iT H with ⟨c9,H⟩ | ⟨c9,H⟩
      ·have bC : decide ((rd l0 aA) < (rd l1 aA)) = true := decide_eq_true c9;clear c9;obtain rfl := Option.some.inj H;have aC : 0 ≤ (aA : Int) := pD;have aD : aA < (l0.length : Int) := pD;obtain ⟨ad182,e182,aN⟩ := Kd.zXi HR0.out aA aC aD
       cases e182
       replace aC := eq_true aC;replace aD := eq_true aD;have aG : 0 ≤ (aA : Int) := pD;have aH : aA < (l1.length : Int) := pD;obtain ⟨ad183,e183,aQ⟩ := Kd.zXi HR1.out aA aG aH
       cases e183
       replace aG := eq_true aG;replace aH := eq_true aH;have aI : 0 ≤ (aA : Int) := pD;have aJ : aA < (l0.length : Int) := pD;obtain ⟨ad184,e184,aT⟩ := Kd.zXi HR0.out aA aI aJ;obtain rfl : ad182 = ad184 := (by injection e184);replace aI := eq_true aI;replace aJ := eq_true aJ;have aK : 0 ≤ (aA : Int) := pD;have aM : aA < (l1.length : Int) := pD;obtain ⟨ad185,e185,aU⟩ := Kd.zXi HR1.out aA aK aM;obtain rfl : ad183 = ad185 := (by injection e185);replace aK := eq_true aK;replace aM := eq_true aM;go_wp2;repeat (go_quiet (fail);try go_wp2)
       go_ret
       exact ⟨pS,pQ0⟩
      ·have bC : decide ((rd l0 aA) < (rd l1 aA)) = false := decide_eq_false c9;clear c9;obtain rfl := Option.some.inj H;have aC : 0 ≤ (aA : Int) := pD;have aD : aA < (l0.length : Int) := pD;obtain ⟨ad182,e182,aN⟩ := Kd.zXi HR0.out aA aC aD
       cases e182
       replace aC := eq_true aC;replace aD := eq_true aD;have aG : 0 ≤ (aA : Int) := pD;have aH : aA < (l1.length : Int) := pD;obtain ⟨ad183,e183,aQ⟩ := Kd.zXi HR1.out aA aG aH
       cases e183
       replace aG := eq_true aG;replace aH := eq_true aH;have aI : 0 ≤ (aA : Int) := pD;have aJ : aA < (l0.length : Int) := pD;obtain ⟨ad184,e184,aT⟩ := Kd.zXi HR0.out aA aI aJ;obtain rfl : ad182 = ad184 := (by injection e184);replace aI := eq_true aI;replace aJ := eq_true aJ;have aK : 0 ≤ (aA : Int) := pD;have aM : aA < (l1.length : Int) := pD;obtain ⟨ad185,e185,aU⟩ := Kd.zXi HR1.out aA aK aM;obtain rfl : ad183 = ad185 := (by injection e185);replace aK := eq_true aK;replace aM := eq_true aM;go_wp2;repeat (go_quiet (fail);try go_wp2)
       go_ret
       exact ⟨pS,pQ0⟩
    ·have aZ : decide (0 ≤ aA) = false := decide_eq_false c4;clear c4;obtain rfl := Option.some.inj H;go_wp2;repeat (go_quiet (fail);try go_wp2)
     go_ret
     exact ⟨pS,pQ0⟩
 ·have aV : ((l0.length : Int) == (l1.length : Int)) = false := beq_eq_false_iff_ne.mpr c3;have aW : ((l0.length : Int) != (l1.length : Int)) = true := bne_iff_ne.mpr c3;(have aX : (l0.length == l1.length) = false := by first | simpa using c3 | (simp at c3 ⊢;omega));obtain rfl := Option.some.inj H;go_enter Tryz.func74,Tryz.ntmps74;go_wp2;repeat (go_quiet (fail);try go_wp2)
  go_ret
  exact ⟨pS,pQ0⟩
end Go.Proofs.YtongfmeediokmaaGreatDoor.Pr
end
section
namespace Go.Proofs.YtongfmeediokmaaGreatDoor.Pr
open Go.RowKit Go.Proofs.YtongfmeediokmaaGreatDoorW.PrintWords Go.Proofs.YtongfmeediokmaaGreatDoorW.PrintLast Go.Proofs.YtongfmeediokmaaGreatDoorW.PrintMore Go.Proofs.YtongfmeediokmaaGreatDoor.Pv
attribute [local go_sem] zXc zXa zXm zXl zQO zQN zXb zQZ
set_option maxHeartbeats 8000000
set_option maxRecDepth 100000
def b_minus.l0 : Nat → List Int → List Int → Int → List Int → Int → Int → Option (List Int)
 | 0,_,_,_,_,_,_ => none
 | k + 1,x1,x5,x6,x14,x15,x16 => if x16 < x15 then (if 0 ≤ x16 then (if x16 < (x14.length : Int) then (if x16 < (x1.length : Int) then (if x5.length < 35184372088832 then (b_minus.l0 k x1 (x5 ++ [(IntKind.u64.wrap ((IntKind.u64.wrap (rd x14 x16)) - (IntKind.u64.wrap (x6 + (IntKind.u64.wrap (rd x1 x16)))))) % 4294967296]) ((IntKind.u64.wrap ((IntKind.u64.wrap (rd x14 x16)) - (IntKind.u64.wrap (x6 + (IntKind.u64.wrap (rd x1 x16)))))) / 9223372036854775808) x14 x15 (wrap64 (x16 + 1))) else (none)) else (if x5.length < 35184372088832 then (b_minus.l0 k x1 (x5 ++ [(IntKind.u64.wrap ((IntKind.u64.wrap (rd x14 x16)) - x6)) % 4294967296]) ((IntKind.u64.wrap ((IntKind.u64.wrap (rd x14 x16)) - x6)) / 9223372036854775808) x14 x15 (wrap64 (x16 + 1))) else (none))) else (none)) else (none)) else ((b_trim.f k x5).bind fun t197 => (some t197))
def b_minus.f (k : Nat) (l0 : List Int) (l1 : List Int) : Option (List Int) := if 0 ≤ (l0.length : Int) then (if ((l0.length : Int) : Int).toNat ≤ 70368744177664 then (b_minus.l0 k l1 (List.replicate 0 0) 0 l0 (l0.length : Int) 0) else (none)) else (none)
theorem b_minus.mono_l : ∀ k,(∀ y0 y1 y2 y3 y4 y5,LeO (b_minus.l0 k y0 y1 y2 y3 y4 y5) (b_minus.l0 (k + 1) y0 y1 y2 y3 y4 y5))
 | 0 => fun _ _ _ _ _ _ r h => by simp [b_minus.l0] at h
 | k + 1 => by
  have ih0 := b_minus.mono_l k
  ·intro y0 y1 y2 y3 y4 y5;unfold b_minus.l0;repeat' first
   | (with_reducible exact ih0 _ _ _ _ _ _)
   | (with_reducible exact b_trim.mono _ _)
   | (with_reducible exact LeO.refl _)
   | (with_reducible exact LeO.none _)
   | (with_reducible refine LeO.ite ?_ ?_)
   | (with_reducible refine LeO.bind ?_ (fun _ => ?_))
   | exact ih0 _ _ _ _ _ _
   | exact b_trim.mono _ _
   | exact LeO.none _
   | refine LeO.ite ?_ ?_
   | refine LeO.bind ?_ (fun _ => ?_)
theorem b_minus.mono : ∀ a0 a1 k,LeO (b_minus.f k a0 a1) (b_minus.f (k + 1) a0 a1) := by
 intro a0 a1 k;have ih0 := b_minus.mono_l k;unfold b_minus.f
 repeat' first
   | (with_reducible exact ih0 _ _ _ _ _ _)
   | (with_reducible exact b_trim.mono _ _)
   | (with_reducible exact LeO.refl _)
   | (with_reducible exact LeO.none _)
   | (with_reducible refine LeO.ite ?_ ?_)
   | (with_reducible refine LeO.bind ?_ (fun _ => ?_))
   | exact ih0 _ _ _ _ _ _
   | exact b_trim.mono _ _
   | exact LeO.none _
   | refine LeO.ite ?_ ?_
   | refine LeO.bind ?_ (fun _ => ?_)
theorem b_minus.calls (k : Nat) (A0 : Option Addr) (c0 : Nat) (l0 : List Int) (A1 : Option Addr) (c1 : Nat) (l1 : List Int) (r : List Int) (w : World) (hr0 : Kd.C (Kd.int .u32) w A0 l0.length l0) (hc0 : l0.length ≤ c0) (hr1 : Kd.C (Kd.int .u32) w A1 l1.length l1) (hc1 : l1.length ≤ c1) (h : b_minus.f k l0 l1 = some r) :
  Calls Tryz.prog 75 #[.slice A0 l0.length c0,.slice A1 l1.length c1] w fun e w' => ∃ v0_ : Value,e = .returned (v0_) ∧ Kd.V (Kd.int .u32) 72 w' w.heap.size (fun k_ => (w.heap.size ≤ k_)) v0_ r ∧ Below w.heap.size w w' := by
 have HR0 := am hr0;have HC0 := am hc0;clear hr0 hc0;have HR1 := am hr1;have HC1 := am hc1;clear hr1 hc1;have HB := am (Below.refl w.heap.size w);have H := h;unfold b_minus.f at H;clear h;obtain ⟨c3,H⟩ := iN H;have bP := eq_true c3;have bQ : decide (0 ≤ (l0.length : Int)) = true := decide_eq_true c3;clear c3;obtain ⟨c4,H⟩ := iN H;have bT := eq_true c4;have bV : decide (((l0.length : Int) : Int).toNat ≤ 70368744177664) = true := decide_eq_true c4;clear c4;obtain ⟨aY,aM⟩ : ∃ y_ : List Int,y_ = (List.replicate 0 0) := ⟨_,rfl⟩;replace H : (b_minus.l0 k l1 aY 0 l0 (l0.length : Int) 0) = some r := pI aM H;have aW := am aM;clear aM;have H' := am H;clear H;go_enter Tryz.func75,Tryz.ntmps75;go_wp2_with (first | ((with_reducible refine zQq (N := 13) rfl ?_);refine zKN (Kd.int .u32) _ 72 rfl (N := 13) rfl 70 _ _ rfl 0 (l0.length : Int) rfl rfl Tryz.underlying70 (.int .u32 0) 4 zXO rfl (by decide) (by omega) 0 (ok := fun _ => True) (okp := fun _ => True) rfl (fun _ hk => hk) trivial (by omega) pD (Nat.le_trans (Nat.mul_le_mul_right _ (pD : (l0.length : Int).toNat ≤ 70368744177664)) (by omega)) (Below.refl _ _) (Nat.le_refl _) ?_;intro cB w5 ho6 hb hg_ hnew_;clear hg_ hnew_;(first | rw [← aW.out] at ho6 | (simp only [Int.reduceToNat] at ho6;rw [← aW.out] at ho6));have bE := am (Kd.zQr (Kd.zYq (M := fun k_ => (w.heap.size ≤ k_)) ho6 (zQa pB) (fun k_ h_ => h_)) (zQa pB));replace HB := bS hb;clear hb ho6))
 go_loopg [5,6,16] k (fun kq v5 v6 v16 w' => ∃ (aG : List Int) (aC : Int) (aA : Int),v6 = .int .u64 aC ∧ v16 = .int .i64 aA ∧ Aside0 (b_minus.l0 kq l1 aG aC l0 (l0.length : Int) aA = some r) ∧ Aside0 (kq ≤ k) ∧ Aside0 (Kd.R (Kd.int .u32) 72 w' w.heap.size (fun k_ => (w.heap.size ≤ k_)) v5 aG) ∧ Aside0 (Below w.heap.size w w'))
 case atStart => exact ⟨(aY),(0),(0),pS,pS,H',⟨Nat.le_refl _⟩,⟨by (with_reducible repeat (first | apply Kd.R_alloc | apply Kd.zQp | apply Kd.zQs));exact Kd.zQx bE.out (fun _ hk => hk.1)⟩,⟨pB⟩⟩
 case round =>
  clear H';(try clear c1);(try clear p2);(try clear c3);(try clear bP);(try clear bQ);(try clear c4);(try clear bT);(try clear bV);obtain ⟨aG,aC,aA,rfl,rfl,HA,aX,aH,HB⟩ := hrel
  cases gk with
  | zero => exact absurd HA.out (by simp [b_minus.l0])
  | succ k1 =>
   have H := HA.out;clear HA;simp only [b_minus.l0] at H;rcases iT H with ⟨c7,H⟩ | ⟨c7,H⟩
   ·have bW : decide (aA < (l0.length : Int)) = true := decide_eq_true c7;clear c7;obtain ⟨c8,H⟩ := iN H;have cK : decide (0 ≤ aA) = true := decide_eq_true c8;clear c8;obtain ⟨c9,H⟩ := iN H;have cO : decide (aA < (l0.length : Int)) = true := decide_eq_true c9;clear c9;rcases iT H with ⟨aT,H⟩ | ⟨aT,H⟩
    ·have bF : decide (aA < (l1.length : Int)) = true := decide_eq_true aT;clear aT;obtain ⟨bN,H⟩ := iN H;have bG := am bN;clear bN;obtain ⟨aZ,aN⟩ : ∃ y_ : List Int,y_ = (aG ++ [(IntKind.u64.wrap ((IntKind.u64.wrap (rd l0 aA)) - (IntKind.u64.wrap (aC + (IntKind.u64.wrap (rd l1 aA)))))) % 4294967296]) := ⟨_,rfl⟩;replace H : (b_minus.l0 k1 l1 aZ ((IntKind.u64.wrap ((IntKind.u64.wrap (rd l0 aA)) - (IntKind.u64.wrap (aC + (IntKind.u64.wrap (rd l1 aA)))))) / 9223372036854775808) l0 (l0.length : Int) (wrap64 (aA + 1))) = some r := pI aN H;have bH := am aN;clear aN;have H' := am H;clear H;have aI : 0 ≤ (aA : Int) := pD;have aJ : aA < (l0.length : Int) := pD;obtain ⟨ad189,e189,aD⟩ := Kd.zXi HR0.out aA aI aJ
     cases e189
     replace aD := (HB.out.cell (World.block_lt_of_cell? w _ aD)).trans aD;replace aI := eq_true aI;replace aJ := eq_true aJ;have aU : 0 ≤ (aA : Int) := pD;have aV : aA < (l1.length : Int) := pD;obtain ⟨ad190,e190,aK⟩ := Kd.zXi HR1.out aA aU aV
     cases e190
     replace aK := (HB.out.cell (World.block_lt_of_cell? w _ aK)).trans aK;replace aU := eq_true aU;replace aV := eq_true aV;go_wp2_with (first | ((with_reducible refine zQu (b := .append) (xs := #[.tmp 37,.tmp 40]) rfl ?_);at_builtin;refine Kd.zQS (Kd.int .u32) (w0 := w) w.heap.size rfl (.tmp 37) (.tmp 40) 70 72 (.int .u32 0) 4 rfl Tryz.underlying70 zXO rfl (by decide) (by omega) u5 aG ((IntKind.u64.wrap ((IntKind.u64.wrap (rd l0 aA)) - (IntKind.u64.wrap (aC + (IntKind.u64.wrap (rd l1 aA)))))) % 4294967296) [.int .u32 ((IntKind.u64.wrap ((IntKind.u64.wrap (rd l0 aA)) - (IntKind.u64.wrap (aC + (IntKind.u64.wrap (rd l1 aA)))))) % 4294967296)] (fun k_ => (w.heap.size ≤ k_)) (fun _ => False) rfl rfl ?aP (fun _ hk => hk.elim) ?aF ?aO ?aB ?aS ?aL ?_;(case aP => exact rfl);(case aB => exact pB);(case aF => exact (fun k_ hk => (Nat.le_trans (zQa pB) hk)));(case aO => exact (pR aH.out));(case aS => exact (zQa pB));(case aL => have := bG.out;omega);intro cZ dC ho hb hg hat;rw [← bH.out] at ho;replace HB := am (hb);have bI := am (ho);clear aH;clear ho hb hg hat))
     go_roundg k1
     case measure => have := aX.out;omega
     case rel => exact ⟨(aZ),((IntKind.u64.wrap ((IntKind.u64.wrap (rd l0 aA)) - (IntKind.u64.wrap (aC + (IntKind.u64.wrap (rd l1 aA)))))) / 9223372036854775808),(wrap64 (aA + 1)),pS,pS,H',⟨by have := aX.out;omega⟩,⟨by (with_reducible repeat (first | apply Kd.R_alloc | apply Kd.zQp | apply Kd.zQs));exact bI.out⟩,⟨pB⟩⟩
    ·have bF : decide (aA < (l1.length : Int)) = false := decide_eq_false aT;clear aT;obtain ⟨bO,H⟩ := iN H;have bJ := am bO;clear bO;obtain ⟨bA,aQ⟩ : ∃ y_ : List Int,y_ = (aG ++ [(IntKind.u64.wrap ((IntKind.u64.wrap (rd l0 aA)) - aC)) % 4294967296]) := ⟨_,rfl⟩;replace H : (b_minus.l0 k1 l1 bA ((IntKind.u64.wrap ((IntKind.u64.wrap (rd l0 aA)) - aC)) / 9223372036854775808) l0 (l0.length : Int) (wrap64 (aA + 1))) = some r := pI aQ H;have bK := am aQ;clear aQ;have H' := am H;clear H;have aI : 0 ≤ (aA : Int) := pD;have aJ : aA < (l0.length : Int) := pD;obtain ⟨ad189,e189,aD⟩ := Kd.zXi HR0.out aA aI aJ
     cases e189
     replace aD := (HB.out.cell (World.block_lt_of_cell? w _ aD)).trans aD;replace aI := eq_true aI;replace aJ := eq_true aJ;go_wp2_with (first | ((with_reducible refine zQu (b := .append) (xs := #[.tmp 37,.tmp 40]) rfl ?_);at_builtin;refine Kd.zQS (Kd.int .u32) (w0 := w) w.heap.size rfl (.tmp 37) (.tmp 40) 70 72 (.int .u32 0) 4 rfl Tryz.underlying70 zXO rfl (by decide) (by omega) u5 aG ((IntKind.u64.wrap ((IntKind.u64.wrap (rd l0 aA)) - aC)) % 4294967296) [.int .u32 ((IntKind.u64.wrap ((IntKind.u64.wrap (rd l0 aA)) - aC)) % 4294967296)] (fun k_ => (w.heap.size ≤ k_)) (fun _ => False) rfl rfl ?aP (fun _ hk => hk.elim) ?aF ?aO ?aB ?aS ?aL ?_;(case aP => exact rfl);(case aB => exact pB);(case aF => exact (fun k_ hk => (Nat.le_trans (zQa pB) hk)));(case aO => exact (pR aH.out));(case aS => exact (zQa pB));(case aL => have := bJ.out;omega);intro dA dD ho hb hg hat;rw [← bK.out] at ho;replace HB := am (hb);have bL := am (ho);clear aH;clear ho hb hg hat))
     go_roundg k1
     case measure => have := aX.out;omega
     case rel => exact ⟨(bA),((IntKind.u64.wrap ((IntKind.u64.wrap (rd l0 aA)) - aC)) / 9223372036854775808),(wrap64 (aA + 1)),pS,pS,H',⟨by have := aX.out;omega⟩,⟨by (with_reducible repeat (first | apply Kd.R_alloc | apply Kd.zQp | apply Kd.zQs));exact bL.out⟩,⟨pB⟩⟩
   ·have bW : decide (aA < (l0.length : Int)) = false := decide_eq_false c7;clear c7;obtain ⟨bX,bZ,H⟩ := oB H;(try dsimp only at H);obtain rfl := Option.some.inj H;obtain ⟨bB,bC,bY⟩ := Kd.zQv aH.out;subst bY;go_wp2_with (first | ((with_reducible refine zQb (f := 85) rfl ?_);refine zQh (some 46) rfl rfl Tryz.func85 (by kernel_rfl) rfl #[.slice bB aG.length bC] rfl pM ?_;(with_reducible refine (b_trim.calls k1 (fun k_ => some k_ = (.slice bB aG.length bC : Value).ownBlock) _ _ aG bX _ ?side1 bZ.out).mono ?_);(case side1 => exact Kd.R_V (Kd.zXQ rfl (aH.out)));rintro e dE ⟨dB,rfl,ho0,hb⟩;refine ⟨_,rfl,?_⟩;have bM := am (Kd.zQM (Kd.zQi (ok' := fun k_ => (w.heap.size ≤ k_)) ho0 (fun k_ hk_ => Or.elim hk_ (fun hs_ => ((aH.out).1 k_ hs_.symm)) (fun hn_ => (Nat.le_trans (zQa pB) hn_)))) (zQa pB));replace aH := am (Kd.zQD (pR aH.out) hb);replace HB := bS hb;(try clear hb);(try clear ho0)))
    go_ret
    exact ⟨_,pE,by (with_reducible repeat (first | apply Kd.V_alloc | apply Kd.zQk | apply Kd.zQm));exact bM.out,pB⟩
def b_by.l0 : Nat → List Int → List Int → Int → Int → Option (Int × Bool)
 | 0,_,_,_,_ => none
 | k + 1,x0,x1,x6,x7 => if x7 ≥ 0 then ((b_len.f x0).bind fun t200 => ((b_len.f x1).bind fun t201 => (if t200 < (wrap64 (t201 + x7)) then (b_by.l0 k x0 x1 x6 (wrap64 (x7 - 1))) else ((b_up.f k x1 x7).bind fun t202 => ((b_cmp.f k x0 t202).bind fun t205 => (if t205 ≥ 0 then ((b_minus.f k x0 t202).bind fun t206 => (if 0 ≤ x7 then (b_by.l0 k t206 x1 (Go.bits .or .u64 x6 (shl .u64 1 x7)) (wrap64 (x7 - 1))) else (none))) else (b_by.l0 k x0 x1 x6 (wrap64 (x7 - 1))))))))) else (some (x6,decide ((x0.length : Int) > 0)))
def b_by.f (k : Nat) (l0 : List Int) (l1 : List Int) : Option (Int × Bool) := b_by.l0 k l0 l1 0 63
theorem b_by.mono_l : ∀ k,(∀ y0 y1 y2 y3,LeO (b_by.l0 k y0 y1 y2 y3) (b_by.l0 (k + 1) y0 y1 y2 y3))
 | 0 => fun _ _ _ _ r h => by simp [b_by.l0] at h
 | k + 1 => by
  have ih0 := b_by.mono_l k
  ·intro y0 y1 y2 y3;unfold b_by.l0;repeat' first
   | (with_reducible exact ih0 _ _ _ _)
   | (with_reducible exact b_cmp.mono _ _ _)
   | (with_reducible exact b_minus.mono _ _ _)
   | (with_reducible exact b_up.mono _ _ _)
   | (with_reducible exact LeO.refl _)
   | (with_reducible exact LeO.none _)
   | (with_reducible refine LeO.ite ?_ ?_)
   | (with_reducible refine LeO.bind ?_ (fun _ => ?_))
   | exact ih0 _ _ _ _
   | exact b_cmp.mono _ _ _
   | exact b_minus.mono _ _ _
   | exact b_up.mono _ _ _
   | exact LeO.none _
   | refine LeO.ite ?_ ?_
   | refine LeO.bind ?_ (fun _ => ?_)
theorem b_by.mono : ∀ a0 a1 k,LeO (b_by.f k a0 a1) (b_by.f (k + 1) a0 a1) := by
 intro a0 a1 k;have ih0 := b_by.mono_l k;unfold b_by.f
 repeat' first
   | (with_reducible exact ih0 _ _ _ _)
   | (with_reducible exact b_cmp.mono _ _ _)
   | (with_reducible exact b_minus.mono _ _ _)
   | (with_reducible exact b_up.mono _ _ _)
   | (with_reducible exact LeO.refl _)
   | (with_reducible exact LeO.none _)
   | (with_reducible refine LeO.ite ?_ ?_)
   | (with_reducible refine LeO.bind ?_ (fun _ => ?_))
   | exact ih0 _ _ _ _
   | exact b_cmp.mono _ _ _
   | exact b_minus.mono _ _ _
   | exact b_up.mono _ _ _
   | exact LeO.none _
   | refine LeO.ite ?_ ?_
   | refine LeO.bind ?_ (fun _ => ?_)
theorem b_by.calls (k : Nat) (P0_ : Nat → Prop) (A0 : Option Addr) (c0 : Nat) (l0 : List Int) (A1 : Option Addr) (c1 : Nat) (l1 : List Int) (r1 : Int) (r2 : Bool) (w : World) (hs0 : Kd.V (Kd.int .u32) 72 w w.heap.size (fun k_ => P0_ k_) (.slice A0 l0.length c0) l0) (hr1 : Kd.C (Kd.int .u32) w A1 l1.length l1) (hc1 : l1.length ≤ c1) (h : b_by.f k l0 l1 = some (r1,r2)) :
  Calls Tryz.prog 59 #[.slice A0 l0.length c0,.slice A1 l1.length c1] w fun e w' => e = .returned (.tuple #[.int .u64 r1,.bool r2]) ∧ Below w.heap.size w w' := by
 have bT := am (show Kd.V (Kd.int .u32) 72 w w.heap.size (fun k_ => (P0_ k_ ∨ w.heap.size ≤ k_)) (.slice A0 l0.length c0) l0 from Kd.zQi hs0 (fun k_ hk => .inl hk));have HR1 := am hr1;have HC1 := am hc1;clear hr1 hc1;have HB := am (Below.refl w.heap.size w);have H : (b_by.l0 k l0 l1 0 63) = some (r1,r2) := h;clear h;have H' := am H;clear H;go_enter Tryz.func59,Tryz.ntmps59;go_wp2
 go_loopg [0,6,7] k (fun kq v0 v6 v7 w' => ∃ (aD : List Int) (aJ : Int) (aC : Int),v6 = .int .u64 aJ ∧ v7 = .int .i64 aC ∧ Aside0 (b_by.l0 kq aD l1 aJ aC = some (r1,r2)) ∧ Aside0 (kq ≤ k) ∧ Aside0 (Kd.V (Kd.int .u32) 72 w' w.heap.size (fun k_ => (P0_ k_ ∨ w.heap.size ≤ k_)) v0 aD) ∧ Aside0 (Below w.heap.size w w'))
 case atStart => exact ⟨(l0),(0),(63),pS,pS,H',⟨Nat.le_refl _⟩,⟨by (with_reducible repeat (first | apply Kd.V_alloc | apply Kd.zQk | apply Kd.zQm));exact bT.out⟩,⟨pB⟩⟩
 case round =>
  clear H';(try clear c1);(try clear p2);obtain ⟨aD,aJ,aC,rfl,rfl,HA,aQ,aA,HB⟩ := hrel
  cases gk with
  | zero => exact absurd HA.out (by simp [b_by.l0])
  | succ k1 =>
   have H := HA.out;clear HA;simp only [b_by.l0] at H;rcases iT H with ⟨c3,H⟩ | ⟨c3,H⟩
   ·have bH : decide (0 ≤ aC) = true := decide_eq_true c3;clear c3;obtain ⟨aM,A4,H⟩ := oB H;(try dsimp only at H);obtain ⟨aN,A5,H⟩ := oB H;(try dsimp only at H);rcases iT H with ⟨c6,H⟩ | ⟨c6,H⟩
    ·have bI : decide (aM < (wrap64 (aN + aC))) = true := decide_eq_true c6;clear c6;have H' := am H;clear H;obtain ⟨bV,bW,bX⟩ := Kd.zQw aA.out;subst bX;go_wp2_with (first | ((with_reducible refine zQb (f := 57) rfl ?_);refine zQh (some 14) rfl rfl Tryz.func57 (by kernel_rfl) rfl #[.slice bV aD.length bW] rfl pM ?_;(with_reducible refine (b_len.calls _ _ aD aM _ ?side1 ?side2 A4.out).mono ?_);(case side1 => exact pC (Kd.zQf aA.out).2.2);(case side2 => exact (Kd.zQf aA.out).2.1);rintro e w' ⟨rfl,⟨nd,rfl⟩⟩;refine ⟨_,rfl,?_⟩) | ((with_reducible refine zQb (f := 57) rfl ?_);refine zQh (some 16) rfl rfl Tryz.func57 (by kernel_rfl) rfl #[.slice A1 l1.length c1] rfl pM ?_;(with_reducible refine (b_len.calls _ _ l1 aN _ ?side1 ?side2 A5.out).mono ?_);(case side1 => exact pC ((Kd.zQL HR1.out pB)));(case side2 => exact HC1.out);rintro e w' ⟨rfl,⟨nd,rfl⟩⟩;refine ⟨_,rfl,?_⟩))
     go_roundg k1
     case measure => have := aQ.out;omega
     case rel => exact ⟨(aD),(aJ),(wrap64 (aC - 1)),pS,pS,H',⟨by have := aQ.out;omega⟩,⟨by (with_reducible repeat (first | apply Kd.V_alloc | apply Kd.zQk | apply Kd.zQm));exact aA.out⟩,⟨pB⟩⟩
    ·have bI : decide (aM < (wrap64 (aN + aC))) = false := decide_eq_false c6;clear c6;obtain ⟨aI,A8,H⟩ := oB H;(try dsimp only at H);obtain ⟨aT,A9,H⟩ := oB H;(try dsimp only at H);rcases iT H with ⟨aU,H⟩ | ⟨aU,H⟩
     ·have bE : decide (0 ≤ aT) = true := decide_eq_true aU;clear aU;obtain ⟨aV,bG,H⟩ := oB H;(try dsimp only at H);obtain ⟨bA,H⟩ := iN H;have bY := eq_true bA;have bZ : decide (0 ≤ aC) = true := decide_eq_true bA;clear bA;obtain ⟨aK,aH⟩ : ∃ j_ : Int,(shl .u64 1 aC) = j_ := ⟨_,rfl⟩;(replace H : (b_by.l0 k1 aV l1 (Go.bits .or .u64 aJ (aK)) (wrap64 (aC - 1))) = some (r1,r2) := by first | (rw [aH] at H;exact H) | (simp only [aH] at H ⊢;exact H));(try rw [aH] at A4);(try rw [aH] at A5);(try rw [aH] at A8);(try rw [aH] at A9);(try rw [aH] at bG);have hji13_ : (IntKind.u64.wrap (1 * 2 ^ min aC.toNat 64)) = aK := aH;have hji13z : aC ≤ 64 → (IntKind.u64.wrap (1 * 2 ^ aC.toNat)) = aK := zXN aH;(have hji13u : (IntKind.u64.wrap (2 ^ min aC.toNat 64)) = aK := by have h_ := hji13_;rw [Int.one_mul] at h_;exact h_);(have hji13v : aC ≤ 64 → (IntKind.u64.wrap (2 ^ aC.toNat)) = aK := fun hle_ => by have h_ := hji13z hle_;rw [Int.one_mul] at h_;exact h_);have H' := am H;clear H;obtain ⟨aW,aX,bJ⟩ := Kd.zQw aA.out;subst bJ;go_wp2_with (first | ((with_reducible refine zQb (f := 57) rfl ?_);refine zQh (some 14) rfl rfl Tryz.func57 (by kernel_rfl) rfl #[.slice aW aD.length aX] rfl pM ?_;(with_reducible refine (b_len.calls _ _ aD aM _ ?side1 ?side2 A4.out).mono ?_);(case side1 => exact pC (Kd.zQf aA.out).2.2);(case side2 => exact (Kd.zQf aA.out).2.1);rintro e w' ⟨rfl,⟨nd,rfl⟩⟩;refine ⟨_,rfl,?_⟩) | ((with_reducible refine zQb (f := 57) rfl ?_);refine zQh (some 16) rfl rfl Tryz.func57 (by kernel_rfl) rfl #[.slice A1 l1.length c1] rfl pM ?_;(with_reducible refine (b_len.calls _ _ l1 aN _ ?side1 ?side2 A5.out).mono ?_);(case side1 => exact pC ((Kd.zQL HR1.out pB)));(case side2 => exact HC1.out);rintro e w' ⟨rfl,⟨nd,rfl⟩⟩;refine ⟨_,rfl,?_⟩) | ((with_reducible refine zQb (f := 58) rfl ?_);refine zQh (some 22) rfl rfl Tryz.func58 (by kernel_rfl) rfl #[.slice A1 l1.length c1,.int .i64 aC] rfl pM ?_;(with_reducible refine (b_up.calls k1 _ _ l1 aC aI _ ?side1 ?side2 A8.out).mono ?_);(case side1 => exact pC ((Kd.zQL HR1.out pB)));(case side2 => exact HC1.out);rintro e cZ ⟨bK,rfl,ho0,hb⟩;refine ⟨_,rfl,?_⟩;replace aA := am (Kd.zQG (pV aA.out) (Kd.zQo ho0) hb);have aG := am (Kd.zQr (Kd.zYq (M := fun k_ => (w.heap.size ≤ k_)) ho0 (zQa pB) (fun k_ h_ => h_)) (zQa pB));replace HB := bS hb;(try clear hb);(try clear ho0);obtain ⟨aY,aZ,bL⟩ := Kd.zQv aG.out;subst bL) | ((with_reducible refine zQb (f := 74) rfl ?_);refine zQh (some 25) rfl rfl Tryz.func74 (by kernel_rfl) rfl #[.slice aW aD.length aX,.slice aY aI.length aZ] rfl pM ?_;(with_reducible refine (b_cmp.calls k1 _ _ aD _ _ aI aT _ ?side1 ?side2 ?side3 ?side4 A9.out).mono ?_);(case side1 => exact pC (Kd.zQf aA.out).2.2);(case side2 => exact (Kd.zQf aA.out).2.1);(case side3 => exact pC (Kd.zQg aG.out).2.2);(case side4 => exact (Kd.zQg aG.out).2.1);rintro e w' ⟨rfl,⟨nd,rfl⟩⟩;refine ⟨_,rfl,?_⟩) | ((with_reducible refine zQb (f := 75) rfl ?_);refine zQh (some 29) rfl rfl Tryz.func75 (by kernel_rfl) rfl #[.slice aW aD.length aX,.slice aY aI.length aZ] rfl pM ?_;(with_reducible refine (b_minus.calls k1 _ _ aD _ _ aI aV _ ?side1 ?side2 ?side3 ?side4 bG.out).mono ?_);(case side1 => exact pC (Kd.zQf aA.out).2.2);(case side2 => exact (Kd.zQf aA.out).2.1);(case side3 => exact pC (Kd.zQg aG.out).2.2);(case side4 => exact (Kd.zQg aG.out).2.1);rintro e dA ⟨cB,rfl,ho0,hb⟩;refine ⟨_,rfl,?_⟩;replace aA := am (Kd.zQj (pV aA.out) hb);have bF := am (Kd.zQM (Kd.zQi (ok' := fun k_ => (P0_ k_ ∨ w.heap.size ≤ k_) ∧ some k_ ≠ (.slice aY aI.length aZ : Value).ownBlock) ho0 (fun k_ hk_ => ⟨(.inr (Nat.le_trans (zQa pB) hk_)),(Kd.fresh' (Kd.R_lt (pR aG.out)) k_ hk_)⟩)) (zQa pB));replace aG := am (Kd.zQD (pR aG.out) hb);replace HB := bS hb;(try clear hb);(try clear ho0)))
      go_roundg k1
      case measure => have := aQ.out;omega
      case rel => exact ⟨(aV),(Go.bits .or .u64 aJ (aK)),(wrap64 (aC - 1)),(by first | rfl | (simp;done) | (simp only [← aH] <;> (first | rfl | simp)) | (simp [*];done)),pS,H',⟨by have := aQ.out;omega⟩,⟨by (with_reducible repeat (first | apply Kd.V_alloc | apply Kd.zQk | apply Kd.zQm));exact Kd.zQi bF.out (fun _ hk => hk.1)⟩,⟨pB⟩⟩
     ·have bE : decide (0 ≤ aT) = false := decide_eq_false aU;clear aU;have H' := am H;clear H;obtain ⟨bB,bC,bM⟩ := Kd.zQw aA.out;subst bM;go_wp2_with (first | ((with_reducible refine zQb (f := 57) rfl ?_);refine zQh (some 14) rfl rfl Tryz.func57 (by kernel_rfl) rfl #[.slice bB aD.length bC] rfl pM ?_;(with_reducible refine (b_len.calls _ _ aD aM _ ?side1 ?side2 A4.out).mono ?_);(case side1 => exact pC (Kd.zQf aA.out).2.2);(case side2 => exact (Kd.zQf aA.out).2.1);rintro e w' ⟨rfl,⟨nd,rfl⟩⟩;refine ⟨_,rfl,?_⟩) | ((with_reducible refine zQb (f := 57) rfl ?_);refine zQh (some 16) rfl rfl Tryz.func57 (by kernel_rfl) rfl #[.slice A1 l1.length c1] rfl pM ?_;(with_reducible refine (b_len.calls _ _ l1 aN _ ?side1 ?side2 A5.out).mono ?_);(case side1 => exact pC ((Kd.zQL HR1.out pB)));(case side2 => exact HC1.out);rintro e w' ⟨rfl,⟨nd,rfl⟩⟩;refine ⟨_,rfl,?_⟩) | ((with_reducible refine zQb (f := 58) rfl ?_);refine zQh (some 22) rfl rfl Tryz.func58 (by kernel_rfl) rfl #[.slice A1 l1.length c1,.int .i64 aC] rfl pM ?_;(with_reducible refine (b_up.calls k1 _ _ l1 aC aI _ ?side1 ?side2 A8.out).mono ?_);(case side1 => exact pC ((Kd.zQL HR1.out pB)));(case side2 => exact HC1.out);rintro e dB ⟨bK,rfl,ho0,hb⟩;refine ⟨_,rfl,?_⟩;replace aA := am (Kd.zQG (pV aA.out) (Kd.zQo ho0) hb);have aG := am (Kd.zQr (Kd.zYq (M := fun k_ => (w.heap.size ≤ k_)) ho0 (zQa pB) (fun k_ h_ => h_)) (zQa pB));replace HB := bS hb;(try clear hb);(try clear ho0);obtain ⟨bN,bO,bP⟩ := Kd.zQv aG.out;subst bP) | ((with_reducible refine zQb (f := 74) rfl ?_);refine zQh (some 25) rfl rfl Tryz.func74 (by kernel_rfl) rfl #[.slice bB aD.length bC,.slice bN aI.length bO] rfl pM ?_;(with_reducible refine (b_cmp.calls k1 _ _ aD _ _ aI aT _ ?side1 ?side2 ?side3 ?side4 A9.out).mono ?_);(case side1 => exact pC (Kd.zQf aA.out).2.2);(case side2 => exact (Kd.zQf aA.out).2.1);(case side3 => exact pC (Kd.zQg aG.out).2.2);(case side4 => exact (Kd.zQg aG.out).2.1);rintro e w' ⟨rfl,⟨nd,rfl⟩⟩;refine ⟨_,rfl,?_⟩))
      go_roundg k1
      case measure => have := aQ.out;omega
      case rel => exact ⟨(aD),(aJ),(wrap64 (aC - 1)),pS,pS,H',⟨by have := aQ.out;omega⟩,⟨by (with_reducible repeat (first | apply Kd.V_alloc | apply Kd.zQk | apply Kd.zQm));exact Kd.zQi aA.out (fun _ hk => hk.1)⟩,⟨pB⟩⟩
   ·have bH : decide (0 ≤ aC) = false := decide_eq_false c3;clear c3;simp only [Option.some.injEq,Prod.mk.injEq] at H;obtain ⟨rfl,rfl⟩ := H;obtain ⟨cK,cO,bQ⟩ := Kd.zQw aA.out;subst bQ;go_wp2;go_ret2;exact ⟨pE,pB⟩
end Go.Proofs.YtongfmeediokmaaGreatDoor.Pr
end
section
namespace Go.Proofs.YtongfmeediokmaaGreatDoor.Pr
open Go.RowKit Go.Proofs.YtongfmeediokmaaGreatDoorW.PrintWords Go.Proofs.YtongfmeediokmaaGreatDoorW.PrintLast Go.Proofs.YtongfmeediokmaaGreatDoorW.PrintMore Go.Proofs.YtongfmeediokmaaGreatDoor.Pv
attribute [local go_sem] zXc zXa zXm zXl zQO zQN zXb zQZ
set_option maxHeartbeats 8000000
set_option maxRecDepth 100000
mutual
def dec_nearest.l0 : Nat → List Int → Int → Int → ByteArray → Int → Option (Int)
 | 0,_,_,_,_,_ => none
 | k + 1,x3,x11,x12,x210000,x210001 => if x12 < x11 then (if 0 ≤ x12 then (if x12 < (x210000.size : Int) then ((b_times.f k x3 10 (((bt x210000 x12) - 48) % 256)).bind fun t210 => (dec_nearest.l0 k t210 x11 (wrap64 (x12 + 1)) x210000 x210001)) else (none)) else (none)) else (if (x3.length : Int) = 0 then (dec_nearest.j1 k x3 true x210000 x210001) else (dec_nearest.j1 k x3 (decide (x210001 < (-1000))) x210000 x210001))
def dec_nearest.j1 : Nat → List Int → Bool → ByteArray → Int → Option (Int)
 | 0,_,_,_,_ => none
 | k + 1,x3,x24,x210000,x210001 => if x24 = true then (some 0) else (if x210001 > 400 then ((flo_Make.f k false 9999 1 false).bind fun t213 => (some t213)) else ((some (([1] : List Int) : List Int)).bind fun y214 => (if x210001 ≥ 0 then ((b_tens.f k x3 x210001).bind fun t217 => (dec_nearest.j2 k t217 y214)) else ((b_tens.f k y214 (wrap64 (-x210001))).bind fun t220 => (dec_nearest.j2 k x3 t220)))))
def dec_nearest.j2 : Nat → List Int → List Int → Option (Int)
 | 0,_,_ => none
 | k + 1,x3,x5 => (b_len.f x3).bind fun t223 => ((b_len.f x5).bind fun t224 => (if (wrap64 (63 - (wrap64 (t223 - t224)))) ≥ 0 then ((b_up.f k x3 (wrap64 (63 - (wrap64 (t223 - t224))))).bind fun t225 => (dec_nearest.j3 k t225 x5 (wrap64 (63 - (wrap64 (t223 - t224)))))) else ((b_up.f k x5 (wrap64 (-(wrap64 (63 - (wrap64 (t223 - t224))))))).bind fun t228 => (dec_nearest.j3 k x3 t228 (wrap64 (63 - (wrap64 (t223 - t224))))))))
def dec_nearest.j3 : Nat → List Int → List Int → Int → Option (Int)
 | 0,_,_,_ => none
 | k + 1,x3,x5,x6 => (b_by.f k x3 x5).bind fun bt231 => (if bt231.2 = true then ((flo_Make.f k false (wrap64 (-x6)) (Go.bits .or .u64 bt231.1 1) false).bind fun t233 => (some t233)) else ((flo_Make.f k false (wrap64 (-x6)) bt231.1 false).bind fun t234 => (some t234)))
end
def dec_nearest.f (k : Nat) (a0_0 : ByteArray) (a0_1 : Int) : Option (Int) := dec_nearest.l0 k ([] : List Int) (a0_0.size : Int) 0 a0_0 a0_1
theorem dec_nearest.mono_l : ∀ k,(∀ y0 y1 y2 y3 y4,LeO (dec_nearest.l0 k y0 y1 y2 y3 y4) (dec_nearest.l0 (k + 1) y0 y1 y2 y3 y4)) ∧ (∀ y0 y1 y2 y3,LeO (dec_nearest.j1 k y0 y1 y2 y3) (dec_nearest.j1 (k + 1) y0 y1 y2 y3)) ∧ (∀ y0 y1,LeO (dec_nearest.j2 k y0 y1) (dec_nearest.j2 (k + 1) y0 y1)) ∧ (∀ y0 y1 y2,LeO (dec_nearest.j3 k y0 y1 y2) (dec_nearest.j3 (k + 1) y0 y1 y2))
 | 0 => ⟨fun _ _ _ _ _ r h => by simp [dec_nearest.l0] at h,fun _ _ _ _ r h => by simp [dec_nearest.j1] at h,fun _ _ r h => by simp [dec_nearest.j2] at h,fun _ _ _ r h => by simp [dec_nearest.j3] at h⟩
 | k + 1 => by
  obtain ⟨ih0,ih1,ih2,ih3⟩ := dec_nearest.mono_l k;refine ⟨?_,?_,?_,?_⟩
  all_goals intros
  all_goals first | unfold dec_nearest.l0 | unfold dec_nearest.j1 | unfold dec_nearest.j2 | unfold dec_nearest.j3
  all_goals repeat' first
   | (with_reducible exact ih0 _ _ _ _ _)
   | (with_reducible exact ih1 _ _ _ _)
   | (with_reducible exact ih2 _ _)
   | (with_reducible exact ih3 _ _ _)
   | (with_reducible exact b_by.mono _ _ _)
   | (with_reducible exact b_tens.mono _ _ _)
   | (with_reducible exact b_times.mono _ _ _ _)
   | (with_reducible exact b_up.mono _ _ _)
   | (with_reducible exact flo_Make.mono _ _ _ _ _)
   | (with_reducible exact LeO.refl _)
   | (with_reducible exact LeO.none _)
   | (with_reducible refine LeO.ite ?_ ?_)
   | (with_reducible refine LeO.bind ?_ (fun _ => ?_))
   | exact ih0 _ _ _ _ _
   | exact ih1 _ _ _ _
   | exact ih2 _ _
   | exact ih3 _ _ _
   | exact b_by.mono _ _ _
   | exact b_tens.mono _ _ _
   | exact b_times.mono _ _ _ _
   | exact b_up.mono _ _ _
   | exact flo_Make.mono _ _ _ _ _
   | exact LeO.none _
   | refine LeO.ite ?_ ?_
   | refine LeO.bind ?_ (fun _ => ?_)
theorem dec_nearest.mono : ∀ a0 a1 k,LeO (dec_nearest.f k a0 a1) (dec_nearest.f (k + 1) a0 a1) := by
 intro a0 a1 k;obtain ⟨ih0,ih1,ih2,ih3⟩ := dec_nearest.mono_l k;unfold dec_nearest.f
 repeat' first
   | (with_reducible exact ih0 _ _ _ _ _)
   | (with_reducible exact ih1 _ _ _ _)
   | (with_reducible exact ih2 _ _)
   | (with_reducible exact ih3 _ _ _)
   | (with_reducible exact b_by.mono _ _ _)
   | (with_reducible exact b_tens.mono _ _ _)
   | (with_reducible exact b_times.mono _ _ _ _)
   | (with_reducible exact b_up.mono _ _ _)
   | (with_reducible exact flo_Make.mono _ _ _ _ _)
   | (with_reducible exact LeO.refl _)
   | (with_reducible exact LeO.none _)
   | (with_reducible refine LeO.ite ?_ ?_)
   | (with_reducible refine LeO.bind ?_ (fun _ => ?_))
   | exact ih0 _ _ _ _ _
   | exact ih1 _ _ _ _
   | exact ih2 _ _
   | exact ih3 _ _ _
   | exact b_by.mono _ _ _
   | exact b_tens.mono _ _ _
   | exact b_times.mono _ _ _ _
   | exact b_up.mono _ _ _
   | exact flo_Make.mono _ _ _ _ _
   | exact LeO.none _
   | refine LeO.ite ?_ ?_
   | refine LeO.bind ?_ (fun _ => ?_)
theorem dec_nearest.calls (k : Nat) (a0_0 : ByteArray) (a0_1 : Int) (r : Int) (w : World) (h : dec_nearest.f k a0_0 a0_1 = some r) :
  Calls Tryz.prog 39 #[.agg #[.string a0_0,.int .i64 a0_1]] w fun e w' => e = .returned (.int .u64 r) ∧ Below w.heap.size w w' := by
 have hu49 := Tryz.underlying49;have HB := am (Below.refl w.heap.size w);have H : (dec_nearest.l0 k ([] : List Int) (a0_0.size : Int) 0 a0_0 a0_1) = some r := h;clear h;have H' := am H;clear H;go_enter Tryz.func39,Tryz.ntmps39;go_wp2_with (first | ((with_reducible refine zQq (N := 1) rfl ?_);refine zQy ?hg (N := 1) ?hd (cs := #[.string a0_0,.int .i64 a0_1]) (t := 49) ?hr ?_;(case hd => rfl);(case hg => rfl);(case hr => first | (go_simp;done) | (go_simp;rfl));intro aD hg w2 hbox hb;have aA := am (hbox);have GW209 := am ((by rw [hg];exact (zQa pB) : w.heap.size ≤ aD));have GE209 := am ((by rw [hg];exact (zQa pB) : w.heap.size ≤ aD));replace HB := bS hb;clear hb hbox hg;have q3 := cf2 aA.out))
 go_loopg [3,12] k (fun kq v3 v12 w' => ∃ (aH : List Int) (aI : Int),v12 = .int .i64 aI ∧ Aside0 (dec_nearest.l0 kq aH (a0_0.size : Int) aI a0_0 a0_1 = some r) ∧ Aside0 (kq ≤ k) ∧ Aside0 (Kd.V (Kd.int .u32) 72 w' w.heap.size (fun k_ => k_ ≠ aD) v3 aH) ∧ Aside0 (w'.heap[aD]? = some (.cells #[.string a0_0,.int .i64 a0_1] 49 (0,0))) ∧ Aside0 (Below w.heap.size w w'))
 case atStart => exact ⟨(([] : List Int)),(0),pS,H',⟨Nat.le_refl _⟩,⟨pZ⟩,⟨pK aA.out⟩,⟨pB⟩⟩
 case round =>
  clear H';(try clear p2);(try clear c3);(try clear q3);obtain ⟨aH,aI,rfl,HA,bG,aC,aA,HB⟩ := hrel
  cases gk with
  | zero => exact absurd HA.out (by simp [dec_nearest.l0])
  | succ k1 =>
   have H := HA.out;clear HA;simp only [dec_nearest.l0] at H;rcases iT H with ⟨c4,H⟩ | ⟨c4,H⟩
   ·have bM : decide (aI < (a0_0.size : Int)) = true := decide_eq_true c4;clear c4;obtain ⟨c5,H⟩ := iN H;have bX : decide (0 ≤ aI) = true := decide_eq_true c5;clear c5;obtain ⟨c6,H⟩ := iN H;have bY : decide (aI < (a0_0.size : Int)) = true := decide_eq_true c6;clear c6;obtain ⟨cO,A8,H⟩ := oB H;(try dsimp only at H);have H' := am H;clear H;have q9 := cf2 aA.out;have p7 : 0 ≤ (aI : Int) := pD;have q7 : aI < (a0_0.size : Int) := pD;have cZ := bt_at a0_0 aI;replace p7 := eq_true p7;replace q7 := eq_true q7;obtain ⟨dW,dX,dY⟩ := Kd.zQw aC.out;subst dY;go_wp2_with (first | ((with_reducible refine zQb (f := 54) rfl ?_);refine zQh (some 22) rfl rfl Tryz.func54 (by kernel_rfl) rfl #[.slice dW aH.length dX,.int .u32 10,.int .u32 (((bt a0_0 aI) - 48) % 256)] rfl pM ?_;(with_reducible refine (b_times.calls k1 _ _ aH 10 (((bt a0_0 aI) - 48) % 256) cO _ ?side1 ?side2 A8.out).mono ?_);(case side1 => exact pC (Kd.zQf aC.out).2.2);(case side2 => exact (Kd.zQf aC.out).2.1);rintro e gN ⟨gB,rfl,ho0,hb⟩;refine ⟨_,rfl,?_⟩;replace aC := am (Kd.zQj (pV aC.out) hb);have dK := am (Kd.zQM (Kd.zQi (ok' := fun k_ => k_ ≠ aD) ho0 (fun k_ hk_ => (Kd.zQT (g := aD) (o := .cells #[.string a0_0,.int .i64 a0_1] 49 (0,0)) (pK aA.out) k_ hk_))) (zQa pB));replace aA := am (pkb aA.out hb);replace HB := bS hb;(try clear hb);(try clear ho0)))
    go_roundg k1
    case measure => have := bG.out;omega
    case rel => exact ⟨(cO),(wrap64 (aI + 1)),pS,H',⟨by have := bG.out;omega⟩,⟨by (with_reducible repeat (first | apply Kd.V_alloc | apply Kd.zQk | apply Kd.zQm));exact dK.out⟩,⟨pK aA.out⟩,⟨pB⟩⟩
   ·have bM : decide (aI < (a0_0.size : Int)) = false := decide_eq_false c4;clear c4;have HC12 := am H;clear H;go_upto_region 7 with (fail)
    go_cut [24] (fun v24 wc => ∃ (kq : Nat) (bB : Bool),v24 = .bool bB ∧ Aside0 (dec_nearest.j1 kq aH bB a0_0 a0_1 = some r) ∧ Aside0 (kq ≤ k1) ∧ Aside0 (Kd.V (Kd.int .u32) 72 wc w.heap.size (fun k_ => k_ ≠ aD) u3 aH) ∧ Aside0 (wc.heap[aD]? = some (.cells #[.string a0_0,.int .i64 a0_1] 49 (0,0))) ∧ Aside0 (Below w.heap.size w wc))
    case first =>
     have H := HC12.out;clear HC12;rcases iT H with ⟨bA,H⟩ | ⟨bA,H⟩
     ·have aN : ((aH.length : Int) == 0) = true := beq_iff_eq.mpr bA;have aQ : ((aH.length : Int) != 0) = false := bne_eq_false_iff_eq.mpr bA;clear bA;(first | rw [aN] | (simp only [i64_w,i32_w];rw [aN]) | rw [aQ] | (simp only [i64_w,i32_w];rw [aQ]) | skip);have H' := am H;clear H;obtain ⟨gD,gF,dZ⟩ := Kd.zQw aC.out;subst dZ;go_wp2;go_meet
      case rel => exact ⟨_,(true),pS,H',⟨by have := bG.out;first | omega | exact Nat.le_refl _⟩,⟨by (with_reducible repeat (first | apply Kd.V_alloc | apply Kd.zQk | apply Kd.zQm));exact aC.out⟩,⟨pK aA.out⟩,⟨pB⟩⟩
     ·have aN : ((aH.length : Int) == 0) = false := beq_eq_false_iff_ne.mpr bA;have aQ : ((aH.length : Int) != 0) = true := bne_iff_ne.mpr bA;(have bN : ¬ (aH = []) := fun h_ => bA (by rw [h_];rfl));(first | rw [aN] | (simp only [i64_w,i32_w];rw [aN]) | rw [aQ] | (simp only [i64_w,i32_w];rw [aQ]) | skip);have H' := am H;clear H;obtain ⟨gG,gH,eB⟩ := Kd.zQw aC.out;subst eB;obtain ⟨hcz16_0,hcz16_1,hfz16_0,hfz16_1⟩ := cf2 aA.out;go_wp2;go_meet
      case rel => exact ⟨_,(decide (a0_1 < (-1000))),pS,H',⟨by have := bG.out;first | omega | exact Nat.le_refl _⟩,⟨by (with_reducible repeat (first | apply Kd.V_alloc | apply Kd.zQk | apply Kd.zQm));exact aC.out⟩,⟨pK aA.out⟩,⟨pB⟩⟩
    case rest =>
     clear HC12;(try clear c1);(try clear p2);(try clear c3);(try clear c4);(try clear bM);(try clear c5);(try clear bX);(try clear c6);(try clear bY);(try clear p6);(try clear p7);(try clear q7);(try clear cZ);(try clear bA);(try clear aN);(try clear aQ);(try clear bN);(try clear hcz16_0 hcz16_1 q3 q9 hfz16_0 hfz16_1);(try clear p2);(try clear p7);(try clear q7);obtain ⟨kq,bB,rfl,HA,bO,aC,aA,HB⟩ := hcut
     cases kq with
     | zero => exact absurd HA.out (by simp [dec_nearest.j1])
     | succ aY =>
      have H := HA.out;clear HA;simp only [dec_nearest.j1] at H;by_cases bK : bB = true
      ·subst bK;rw [if_pos rfl] at H;obtain rfl := Option.some.inj H;go_wp2
       go_ret
       exact ⟨pE,pB⟩
      ·replace bK := Bool.eq_false_iff.mpr bK;subst bK;rw [if_neg (show ¬ (false = true) by decide)] at H;rcases iT H with ⟨bI,H⟩ | ⟨bI,H⟩
       ·have bP : decide (400 < a0_1) = true := decide_eq_true bI;clear bI;obtain ⟨eD,fK,H⟩ := oB H;(try dsimp only at H);obtain rfl := Option.some.inj H;have dP := cf2 aA.out;go_wp2_with (first | ((with_reducible refine zQb (f := 55) rfl ?_);refine zQh (some 37) rfl rfl Tryz.func55 (by kernel_rfl) rfl #[.bool false,.int .i64 9999,.int .u64 1,.bool false] rfl pM ?_;(with_reducible refine (flo_Make.calls aY false 9999 1 false eD _ fK.out).mono ?_);rintro e gP ⟨rfl,hb⟩;refine ⟨_,rfl,?_⟩;replace aC := am (Kd.zQj (pV aC.out) hb);replace aA := am (pkb aA.out hb);replace HB := bS hb;(try clear hb)))
        go_ret
        exact ⟨pE,pB⟩
       ·have bP : decide (400 < a0_1) = false := decide_eq_false bI;clear bI;obtain ⟨bE,bQ⟩ : ∃ y_ : List Int,y_ = (([1] : List Int)) := ⟨_,rfl⟩;replace H : (if a0_1 ≥ 0 then ((b_tens.f aY aH a0_1).bind fun bT => (dec_nearest.j2 aY bT bE)) else ((b_tens.f aY bE (wrap64 (-a0_1))).bind fun bV => (dec_nearest.j2 aY aH bV))) = some r := pI bQ H;have cB := am bQ;clear bQ;have HC22 := am H;clear H;have dQ := cf2 aA.out
        go_upto_if 41 with (first | ((with_reducible refine zQq (N := 38) rfl ?_);refine Kd.R_lit (Kd.int .u32) _ 72 ?hg (N := 38) ?hd (xs := ([1] : List Int)) (inner := [.int .u32 1]) (ok := fun _ => True) (okp := fun _ => True) ?hr ?hp (fun _ hk => hk) trivial (Below.refl _ _) (Nat.le_refl _) (by simp) ?_;(case hd => rfl);(case hg => rfl);(case hr => first | (go_simp;done) | (go_simp;rfl));(case hp => exact (Reps.one (show Kd.M (Kd.int .u32) _ _ _ 1 [.int .u32 1] from rfl) (Reps.none _ _)));intro dA gQ ho25 hb hg_ hnew_;clear hg_ hnew_;(first | rw [← cB.out] at ho25 | (simp only [Int.reduceToNat] at ho25;rw [← cB.out] at ho25));replace aC := am (Kd.zQG (pV aC.out) (Kd.zQo ho25) hb);have aM := am (Kd.zQr ho25 (zQa pB));replace aA := am (pkb aA.out hb);replace HB := bS hb;clear hb ho25;have dR := cf2 aA.out))
        (try simp only [Act.put,List.setIfInBounds_toArray,List.set_cons_zero,List.set_cons_succ])
        go_cut [3,5] (fun v3 v5 wc => ∃ (kq : Nat) (aT : List Int) (aU : List Int),Aside0 (dec_nearest.j2 kq aT aU = some r) ∧ Aside0 (kq ≤ aY) ∧ Aside0 (Kd.V (Kd.int .u32) 72 wc w.heap.size (fun k_ => k_ ≠ aD) v3 aT) ∧ Aside0 (Kd.V (Kd.int .u32) 72 wc w.heap.size (fun k_ => k_ ≠ aD) v5 aU) ∧ Aside0 (wc.heap[aD]? = some (.cells #[.string a0_0,.int .i64 a0_1] 49 (0,0))) ∧ Aside0 (Below w.heap.size w wc))
        case first =>
         have H := HC22.out;clear HC22;rcases iT H with ⟨bJ,H⟩ | ⟨bJ,H⟩
         ·have aV : decide (0 ≤ a0_1) = true := decide_eq_true bJ;clear bJ;(first | rw [aV] | (simp only [i64_w,i32_w];rw [aV]) | rw [bC] | (simp only [i64_w,i32_w];rw [bC]) | skip);obtain ⟨bT,fM,H⟩ := oB H;(try dsimp only at H);have H' := am H;clear H;have dS := cf2 aA.out;obtain ⟨eF,eG,eH⟩ := Kd.zQw aC.out;subst eH;(go_wp2_with (first | ((with_reducible refine zQb (f := 56) rfl ?_);refine zQh (some 45) rfl rfl Tryz.func56 (by kernel_rfl) rfl #[.slice eF aH.length eG,.int .i64 a0_1] rfl pM ?_;(with_reducible refine (b_tens.calls aY (fun k_ => (k_ ≠ aD ∧ some k_ ≠ (dA : Value).ownBlock)) _ _ aH a0_1 bT _ ?side1 fM.out).mono ?_);(case side1 => exact aC.out);rintro e gT ⟨gI,rfl,ho0,hb⟩;refine ⟨_,rfl,?_⟩;replace aC := am (Kd.zQj (pV aC.out) hb);have dL := am (Kd.zQM (Kd.zQi (ok' := fun k_ => some k_ ≠ (dA : Value).ownBlock ∧ k_ ≠ aD) ho0 (fun k_ hk_ => ⟨Or.elim hk_ (fun hs_ => hs_.2) (fun hn_ => (Kd.fresh' (Kd.R_lt (pR aM.out)) k_ hn_)),Or.elim hk_ (fun hs_ => hs_.1) (fun hn_ => (Kd.zQT (g := aD) (o := .cells #[.string a0_0,.int .i64 a0_1] 49 (0,0)) (pK aA.out) k_ hn_))⟩)) (zQa pB));replace aM := am (Kd.zQD (pR aM.out) hb);replace aA := am (pkb aA.out hb);replace HB := bS hb;(try clear hb);(try clear ho0))));go_meet
          case rel => exact ⟨_,(bT),(bE),H',⟨by have := bG.out;have := bO.out;first | omega | exact Nat.le_refl _⟩,⟨by (with_reducible repeat (first | apply Kd.V_alloc | apply Kd.zQk | apply Kd.zQm));exact Kd.zQi dL.out (fun _ hk => hk.2)⟩,⟨Kd.R_V (by (with_reducible repeat (first | apply Kd.R_alloc | apply Kd.zQp | apply Kd.zQs));exact Kd.zQx (Kd.zQV aM.out aA.out (by decide)) (fun _ hk => hk.2))⟩,⟨pK aA.out⟩,⟨pB⟩⟩
         ·have aV : decide (0 ≤ a0_1) = false := decide_eq_false bJ;clear bJ;(first | rw [aV] | (simp only [i64_w,i32_w];rw [aV]) | rw [bC] | (simp only [i64_w,i32_w];rw [bC]) | skip);obtain ⟨bV,fO,H⟩ := oB H;(try dsimp only at H);have H' := am H;clear H;have dU := cf2 aA.out;obtain ⟨dB,dC,eO⟩ := Kd.zQv aM.out;subst eO;(go_wp2_with (first | ((with_reducible refine zQb (f := 56) rfl ?_);refine zQh (some 50) rfl rfl Tryz.func56 (by kernel_rfl) rfl #[.slice dB bE.length dC,.int .i64 (wrap64 (-a0_1))] rfl pM ?_;(with_reducible refine (b_tens.calls aY (fun k_ => some k_ = (.slice dB bE.length dC : Value).ownBlock) _ _ bE (wrap64 (-a0_1)) bV _ ?side1 fO.out).mono ?_);(case side1 => exact Kd.R_V (Kd.zXQ rfl (Kd.zQV (aM.out) aA.out (by decide))));rintro e gU ⟨gJ,rfl,ho0,hb⟩;refine ⟨_,rfl,?_⟩;replace aC := am (Kd.zQj (pV aC.out) hb);have dM := am (Kd.zQM (Kd.zQi (ok' := fun k_ => k_ ≠ aD) ho0 (fun k_ hk_ => Or.elim hk_ (fun hs_ => ((Kd.zQV (aM.out) aA.out (by decide)).1 k_ hs_.symm).2) (fun hn_ => (Kd.zQT (g := aD) (o := .cells #[.string a0_0,.int .i64 a0_1] 49 (0,0)) (pK aA.out) k_ hn_)))) (zQa pB));replace aM := am (Kd.zQD (pR aM.out) hb);replace aA := am (pkb aA.out hb);replace HB := bS hb;(try clear hb);(try clear ho0))));go_meet
          case rel => exact ⟨_,(aH),(bV),H',⟨by have := bG.out;have := bO.out;first | omega | exact Nat.le_refl _⟩,⟨by (with_reducible repeat (first | apply Kd.V_alloc | apply Kd.zQk | apply Kd.zQm));exact Kd.zQi aC.out (fun _ hk => hk.1)⟩,⟨by (with_reducible repeat (first | apply Kd.V_alloc | apply Kd.zQk | apply Kd.zQm));exact dM.out⟩,⟨pK aA.out⟩,⟨pB⟩⟩
        case rest =>
         clear HC22;(try clear c1);(try clear c2);(try clear p2);(try clear c3);(try clear c4);(try clear bM);(try clear c5);(try clear bX);(try clear c6);(try clear bY);(try clear p6);(try clear p7);(try clear q7);(try clear cZ);(try clear bA);(try clear aN);(try clear aQ);(try clear bN);(try clear bK);(try clear bI);(try clear bP);(try clear bJ);(try clear aV);(try clear bC);(try clear hcz16_0 hcz16_1 dP dQ dR dS dU q3 q9 hfz16_0 hfz16_1);(try clear p2);(try clear p6);(try clear p7);(try clear q7);obtain ⟨kq,aT,aU,HA,dD,aC,aG,aA,HB⟩ := hcut
         cases kq with
         | zero => exact absurd HA.out (by simp [dec_nearest.j2])
         | succ bZ =>
          have H := HA.out;clear HA;simp only [dec_nearest.j2] at H;obtain ⟨aJ,fP,H⟩ := oB H;(try dsimp only at H);obtain ⟨aK,fQ,H⟩ := oB H;(try dsimp only at H);have HC38 := am H;clear H;obtain ⟨dE,dF,eP⟩ := Kd.zQw aC.out;subst eP
          go_upto_if 58 with (first | ((with_reducible refine zQb (f := 57) rfl ?_);refine zQh (some 52) rfl rfl Tryz.func57 (by kernel_rfl) rfl #[.slice dE aT.length dF] rfl pM ?_;(with_reducible refine (b_len.calls _ _ aT aJ _ ?side1 ?side2 fP.out).mono ?_);(case side1 => exact pC (Kd.zQf aC.out).2.2);(case side2 => exact (Kd.zQf aC.out).2.1);rintro e w' ⟨rfl,⟨nd,rfl⟩⟩;refine ⟨_,rfl,?_⟩;obtain ⟨dG,dH,eQ⟩ := Kd.zQw aG.out;subst eQ) | ((with_reducible refine zQb (f := 57) rfl ?_);refine zQh (some 54) rfl rfl Tryz.func57 (by kernel_rfl) rfl #[.slice dG aU.length dH] rfl pM ?_;(with_reducible refine (b_len.calls _ _ aU aK _ ?side1 ?side2 fQ.out).mono ?_);(case side1 => exact pC (Kd.zQf aG.out).2.2);(case side2 => exact (Kd.zQf aG.out).2.1);rintro e w' ⟨rfl,⟨nd,rfl⟩⟩;refine ⟨_,rfl,?_⟩))
          (try simp only [Act.put,List.setIfInBounds_toArray,List.set_cons_zero,List.set_cons_succ])
          go_cut [3,5] (fun v3 v5 wc => ∃ (kq : Nat) (aW : List Int) (aX : List Int),Aside0 (dec_nearest.j3 kq aW aX (wrap64 (63 - (wrap64 (aJ - aK)))) = some r) ∧ Aside0 (kq ≤ bZ) ∧ Aside0 (Kd.V (Kd.int .u32) 72 wc w.heap.size (fun k_ => k_ ≠ aD) v3 aW) ∧ Aside0 (Kd.V (Kd.int .u32) 72 wc w.heap.size (fun k_ => k_ ≠ aD) v5 aX) ∧ Aside0 (wc.heap[aD]? = some (.cells #[.string a0_0,.int .i64 a0_1] 49 (0,0))) ∧ Aside0 (Below w.heap.size w wc))
          case first =>
           have H := HC38.out;clear HC38;rcases iT H with ⟨bL,H⟩ | ⟨bL,H⟩
           ·have aZ : decide (0 ≤ (wrap64 (63 - (wrap64 (aJ - aK))))) = true := decide_eq_true bL;clear bL;(first | rw [aZ] | (simp only [i64_w,i32_w];rw [aZ]) | rw [bH] | (simp only [i64_w,i32_w];rw [bH]) | skip);obtain ⟨dI,fT,H⟩ := oB H;(try dsimp only at H);have H' := am H;clear H;(go_wp2_with (first | ((with_reducible refine zQb (f := 58) rfl ?_);refine zQh (some 61) rfl rfl Tryz.func58 (by kernel_rfl) rfl #[.slice dE aT.length dF,.int .i64 (wrap64 (63 - (wrap64 (aJ - aK))))] rfl pM ?_;(with_reducible refine (b_up.calls bZ _ _ aT (wrap64 (63 - (wrap64 (aJ - aK)))) dI _ ?side1 ?side2 fT.out).mono ?_);(case side1 => exact pC (Kd.zQf aC.out).2.2);(case side2 => exact (Kd.zQf aC.out).2.1);rintro e gV ⟨gK,rfl,ho0,hb⟩;refine ⟨_,rfl,?_⟩;replace aC := am (Kd.zQG (pV aC.out) (Kd.zQo ho0) hb);replace aG := am (Kd.zQG (pV aG.out) (Kd.zQo ho0) hb);have dN := am (Kd.zQr ho0 (zQa pB));replace aA := am (pkb aA.out hb);replace HB := bS hb;(try clear hb);(try clear ho0))));go_meet
            case rel => exact ⟨_,(dI),(aU),H',⟨by have := bG.out;have := bO.out;have := dD.out;first | omega | exact Nat.le_refl _⟩,⟨Kd.R_V (by (with_reducible repeat (first | apply Kd.R_alloc | apply Kd.zQp | apply Kd.zQs));exact Kd.zQx (Kd.zQV dN.out aA.out (by decide)) (fun _ hk => hk.2))⟩,⟨by (with_reducible repeat (first | apply Kd.V_alloc | apply Kd.zQk | apply Kd.zQm));exact Kd.zQi aG.out (fun _ hk => hk.1)⟩,⟨pK aA.out⟩,⟨pB⟩⟩
           ·have aZ : decide (0 ≤ (wrap64 (63 - (wrap64 (aJ - aK))))) = false := decide_eq_false bL;clear bL;(first | rw [aZ] | (simp only [i64_w,i32_w];rw [aZ]) | rw [bH] | (simp only [i64_w,i32_w];rw [bH]) | skip);obtain ⟨dJ,fU,H⟩ := oB H;(try dsimp only at H);have H' := am H;clear H;(go_wp2_with (first | ((with_reducible refine zQb (f := 58) rfl ?_);refine zQh (some 65) rfl rfl Tryz.func58 (by kernel_rfl) rfl #[.slice dG aU.length dH,.int .i64 (wrap64 (-(wrap64 (63 - (wrap64 (aJ - aK))))))] rfl pM ?_;(with_reducible refine (b_up.calls bZ _ _ aU (wrap64 (-(wrap64 (63 - (wrap64 (aJ - aK)))))) dJ _ ?side1 ?side2 fU.out).mono ?_);(case side1 => exact pC (Kd.zQf aG.out).2.2);(case side2 => exact (Kd.zQf aG.out).2.1);rintro e gW ⟨gL,rfl,ho0,hb⟩;refine ⟨_,rfl,?_⟩;replace aC := am (Kd.zQG (pV aC.out) (Kd.zQo ho0) hb);replace aG := am (Kd.zQG (pV aG.out) (Kd.zQo ho0) hb);have dO := am (Kd.zQr ho0 (zQa pB));replace aA := am (pkb aA.out hb);replace HB := bS hb;(try clear hb);(try clear ho0))));go_meet
            case rel => exact ⟨_,(aT),(dJ),H',⟨by have := bG.out;have := bO.out;have := dD.out;first | omega | exact Nat.le_refl _⟩,⟨by (with_reducible repeat (first | apply Kd.V_alloc | apply Kd.zQk | apply Kd.zQm));exact Kd.zQi aC.out (fun _ hk => hk.1)⟩,⟨Kd.R_V (by (with_reducible repeat (first | apply Kd.R_alloc | apply Kd.zQp | apply Kd.zQs));exact Kd.zQx (Kd.zQV dO.out aA.out (by decide)) (fun _ hk => hk.2))⟩,⟨pK aA.out⟩,⟨pB⟩⟩
          case rest =>
           clear HC38;(try clear c1);(try clear c2);(try clear p2);(try clear c3);(try clear c4);(try clear bM);(try clear c5);(try clear bX);(try clear c6);(try clear bY);(try clear p6);(try clear p7);(try clear q7);(try clear cZ);(try clear bA);(try clear aN);(try clear aQ);(try clear bN);(try clear bK);(try clear bI);(try clear bP);(try clear bJ);(try clear aV);(try clear bC);(try clear gX);(try clear bL);(try clear aZ);(try clear bH);(try clear hcz16_0 hcz16_1 dP dQ dR dS dU q3 q9 hfz16_0 hfz16_1);(try clear p2);(try clear p6);(try clear p7);(try clear q7);obtain ⟨kq,aW,aX,HA,gM,aC,aG,aA,HB⟩ := hcut
           cases kq with
           | zero => exact absurd HA.out (by simp [dec_nearest.j3])
           | succ bW =>
            have H := HA.out;clear HA;simp only [dec_nearest.j3] at H;obtain ⟨⟨bF,eT⟩,dV,H⟩ := oB H;(try dsimp only at H);by_cases cK : eT = true
            ·subst cK;rw [if_pos rfl] at H;obtain ⟨eU,fV,H⟩ := oB H;(try dsimp only at H);obtain rfl := Option.some.inj H;obtain ⟨eX,eY,eZ⟩ := Kd.zQw aC.out;subst eZ;obtain ⟨fA,fB,fC⟩ := Kd.zQw aG.out;subst fC;go_wp2_with (first | ((with_reducible refine zQb (f := 59) rfl ?_);refine zQh (some 69) rfl rfl Tryz.func59 (by kernel_rfl) rfl #[.slice eX aW.length eY,.slice fA aX.length fB] rfl pM ?_;(with_reducible refine (b_by.calls bW (fun k_ => k_ ≠ aD) _ _ aW _ _ aX bF true _ ?side1 ?side2 ?side3 dV.out).mono ?_);(case side1 => exact aC.out);(case side2 => exact pC (Kd.zQf aG.out).2.2);(case side3 => exact (Kd.zQf aG.out).2.1);rintro e gY ⟨rfl,hb⟩;refine ⟨_,rfl,?_⟩;replace aC := am (Kd.zQj (pV aC.out) hb);replace aG := am (Kd.zQj (pV aG.out) hb);replace aA := am (pkb aA.out hb);replace HB := bS hb;(try clear hb)) | ((with_reducible refine zQb (f := 55) rfl ?_);refine zQh (some 78) rfl rfl Tryz.func55 (by kernel_rfl) rfl #[.bool false,.int .i64 (wrap64 (-(wrap64 (63 - (wrap64 (aJ - aK)))))),.int .u64 (Go.bits .or .u64 bF 1),.bool false] rfl pM ?_;(with_reducible refine (flo_Make.calls bW false (wrap64 (-(wrap64 (63 - (wrap64 (aJ - aK)))))) (Go.bits .or .u64 bF 1) false eU _ fV.out).mono ?_);rintro e gZ ⟨rfl,hb⟩;refine ⟨_,rfl,?_⟩;replace aC := am (Kd.zQj (pV aC.out) hb);replace aG := am (Kd.zQj (pV aG.out) hb);replace aA := am (pkb aA.out hb);replace HB := bS hb;(try clear hb)))
             go_ret
             exact ⟨pE,pB⟩
            ·replace cK := Bool.eq_false_iff.mpr cK;subst cK;rw [if_neg (show ¬ (false = true) by decide)] at H;obtain ⟨fD,fZ,H⟩ := oB H;(try dsimp only at H);obtain rfl := Option.some.inj H;obtain ⟨fE,fF,fG⟩ := Kd.zQw aC.out;subst fG;obtain ⟨fH,fI,fJ⟩ := Kd.zQw aG.out;subst fJ;go_wp2_with (first | ((with_reducible refine zQb (f := 59) rfl ?_);refine zQh (some 69) rfl rfl Tryz.func59 (by kernel_rfl) rfl #[.slice fE aW.length fF,.slice fH aX.length fI] rfl pM ?_;(with_reducible refine (b_by.calls bW (fun k_ => k_ ≠ aD) _ _ aW _ _ aX bF false _ ?side1 ?side2 ?side3 dV.out).mono ?_);(case side1 => exact aC.out);(case side2 => exact pC (Kd.zQf aG.out).2.2);(case side3 => exact (Kd.zQf aG.out).2.1);rintro e iA ⟨rfl,hb⟩;refine ⟨_,rfl,?_⟩;replace aC := am (Kd.zQj (pV aC.out) hb);replace aG := am (Kd.zQj (pV aG.out) hb);replace aA := am (pkb aA.out hb);replace HB := bS hb;(try clear hb)) | ((with_reducible refine zQb (f := 55) rfl ?_);refine zQh (some 78) rfl rfl Tryz.func55 (by kernel_rfl) rfl #[.bool false,.int .i64 (wrap64 (-(wrap64 (63 - (wrap64 (aJ - aK)))))),.int .u64 bF,.bool false] rfl pM ?_;(with_reducible refine (flo_Make.calls bW false (wrap64 (-(wrap64 (63 - (wrap64 (aJ - aK)))))) bF false fD _ fZ.out).mono ?_);rintro e iB ⟨rfl,hb⟩;refine ⟨_,rfl,?_⟩;replace aC := am (Kd.zQj (pV aC.out) hb);replace aG := am (Kd.zQj (pV aG.out) hb);replace aA := am (pkb aA.out hb);replace HB := bS hb;(try clear hb)))
             go_ret
             exact ⟨pE,pB⟩
def dec_Parse.f (k : Nat) (a0 : ByteArray) : Option (Int × Int) := if (a0.size : Int) > 400 then (some (0,2)) else ((dec_cut.f k a0).bind fun bt235 => (if bt235.2.2 = true then ((dec_nearest.f k bt235.1 bt235.2.1).bind fun t239 => (some (t239,0))) else (some (0,4))))
theorem dec_Parse.mono : ∀ a0 k,LeO (dec_Parse.f k a0) (dec_Parse.f (k + 1) a0) := by
 intro a0 k;unfold dec_Parse.f
 repeat' first
   | (with_reducible exact dec_cut.mono _ _)
   | (with_reducible exact dec_nearest.mono _ _ _)
   | (with_reducible exact LeO.refl _)
   | (with_reducible exact LeO.none _)
   | (with_reducible refine LeO.ite ?_ ?_)
   | (with_reducible refine LeO.bind ?_ (fun _ => ?_))
   | exact dec_cut.mono _ _
   | exact dec_nearest.mono _ _ _
   | exact LeO.none _
   | refine LeO.ite ?_ ?_
   | refine LeO.bind ?_ (fun _ => ?_)
theorem dec_Parse.calls (k : Nat) (a0 : ByteArray) (r1 : Int) (r2 : Int) (w : World) (h : dec_Parse.f k a0 = some (r1,r2)) :
  Calls Tryz.prog 27 #[.string a0] w fun e w' => e = .returned (.tuple #[.int .u64 r1,.int .i64 r2]) ∧ Below w.heap.size w w' := by
 have hu49 := Tryz.underlying49;have HB := am (Below.refl w.heap.size w);have H := h;unfold dec_Parse.f at H;clear h;rcases iT H with ⟨c2,H⟩ | ⟨c2,H⟩
 ·have aH : decide (400 < (a0.size : Int)) = true := decide_eq_true c2;have aI : decide (400 < a0.size) = true := decide_eq_true (by omega);clear c2;simp only [Option.some.injEq,Prod.mk.injEq] at H;obtain ⟨rfl,rfl⟩ := H;go_enter Tryz.func27,Tryz.ntmps27;go_wp2;go_ret2;exact ⟨pE,pB⟩
 ·have aH : decide (400 < (a0.size : Int)) = false := decide_eq_false c2;have aI : decide (400 < a0.size) = false := decide_eq_false (by omega);clear c2;obtain ⟨⟨aD,aG,aJ⟩,A3,H⟩ := oB H;(try dsimp only at H);by_cases c4 : aJ = true
  ·subst c4;rw [if_pos rfl] at H;obtain ⟨aK,A5,H⟩ := oB H;(try dsimp only at H);simp only [Option.some.injEq,Prod.mk.injEq] at H;obtain ⟨rfl,rfl⟩ := H;go_enter Tryz.func27,Tryz.ntmps27;(go_wp2_with (first | ((with_reducible refine zQb (f := 38) rfl ?_);refine zQh (some 11) rfl rfl Tryz.func38 (by kernel_rfl) rfl #[.string a0] rfl pM ?_;(with_reducible refine (dec_cut.calls k a0 aD aG true _ A3.out).mono ?_);rintro e w6 ⟨rfl,hb⟩;refine ⟨_,rfl,?_⟩;replace HB := bS hb;(try clear hb)) | ((with_reducible refine zQq (N := 4) rfl ?_);refine zQy ?hg (N := 4) ?hd (cs := #[.string (⟨#[]⟩ : ByteArray),.int .i64 0]) (t := 49) ?hr ?_;(case hd => rfl);(case hg => rfl);(case hr => first | (go_simp;done) | (go_simp;rfl));intro aA hg w7 hbox hb;have aC := am (hbox);have GW238 := am ((by rw [hg];exact (zQa pB) : w.heap.size ≤ aA));have GE238 := am ((by rw [hg];exact (zQa pB) : w.heap.size ≤ aA));replace HB := bS hb;clear hb hbox hg;have q8 := cf2 aC.out) | ((with_reducible refine zQb (f := 39) rfl ?_);refine zQh (some 17) rfl rfl Tryz.func39 (by kernel_rfl) rfl #[.agg #[.string aD,.int .i64 aG]] rfl pM ?_;(with_reducible refine (dec_nearest.calls k aD aG aK _ A5.out).mono ?_);rintro e w9 ⟨rfl,hb⟩;refine ⟨_,rfl,?_⟩;replace aC := am (zZu (g := aA) (o := .cells #[.string aD,.int .i64 aG] 49 (0,0)) (by (with_reducible repeat (first | refine zQc ?_ _ | refine zQe ?_ | refine zQd ?_ _));refine zQl (cs := #[.string aD,.int .i64 0]) ?_ 1 _ rfl;(with_reducible repeat (first | refine zQc ?_ _ | refine zQe ?_ | refine zQd ?_ _));refine zQl (cs := #[.string (⟨#[]⟩ : ByteArray),.int .i64 0]) ?_ 0 _ rfl;(with_reducible repeat (first | refine zQc ?_ _ | refine zQe ?_ | refine zQd ?_ _));exact aC.out) hb);replace HB := bS hb;(try clear hb))));go_ret2;exact ⟨pE,pB⟩
  ·replace c4 := Bool.eq_false_iff.mpr c4;subst c4;rw [if_neg (show ¬ (false = true) by decide)] at H;simp only [Option.some.injEq,Prod.mk.injEq] at H;obtain ⟨rfl,rfl⟩ := H;go_enter Tryz.func27,Tryz.ntmps27;(go_wp2_with (first | ((with_reducible refine zQb (f := 38) rfl ?_);refine zQh (some 11) rfl rfl Tryz.func38 (by kernel_rfl) rfl #[.string a0] rfl pM ?_;(with_reducible refine (dec_cut.calls k a0 aD aG false _ A3.out).mono ?_);rintro e aM ⟨rfl,hb⟩;refine ⟨_,rfl,?_⟩;replace HB := bS hb;(try clear hb)) | ((with_reducible refine zQq (N := 4) rfl ?_);refine zQy ?hg (N := 4) ?hd (cs := #[.string (⟨#[]⟩ : ByteArray),.int .i64 0]) (t := 49) ?hr ?_;(case hd => rfl);(case hg => rfl);(case hr => first | (go_simp;done) | (go_simp;rfl));intro aA hg aN hbox hb;have aC := am (hbox);have GW238 := am ((by rw [hg];exact (zQa pB) : w.heap.size ≤ aA));have GE238 := am ((by rw [hg];exact (zQa pB) : w.heap.size ≤ aA));replace HB := bS hb;clear hb hbox hg;have aQ := cf2 aC.out)));go_ret2;exact ⟨pE,pB⟩
def flo_Neg.f (a0 : Int) : Option (Int) := (flo_canon.f a0).bind fun t240 => ((flo_canon.f (Go.bits .xor .u64 t240 9223372036854775808)).bind fun t241 => (some t241))
theorem flo_Neg.calls (a0 : Int) (r : Int) (w : World) (h : flo_Neg.f a0 = some r) :
  Calls Tryz.prog 28 #[.int .u64 a0] w fun e w' => e = .returned (.int .u64 r) ∧ Drawn0 w w' := by
 have H : ((flo_canon.f a0).bind fun aA => ((flo_canon.f (Go.bits .xor .u64 aA 9223372036854775808)).bind fun aC => (some aC))) = some r := h;clear h;obtain ⟨aA,A2,H⟩ := oB H;(try dsimp only at H);obtain ⟨aC,A3,H⟩ := oB H;(try dsimp only at H);obtain rfl := Option.some.inj H;go_enter Tryz.func28,Tryz.ntmps28;go_wp2_with (first | ((with_reducible refine zQb (f := 36) rfl ?_);refine zQh (some 4) rfl rfl Tryz.func36 (by kernel_rfl) rfl #[.int .u64 a0] rfl pM ?_;(with_reducible refine (flo_canon.calls a0 aA _ A2.out).mono ?_);rintro e w' ⟨rfl,⟨nd,rfl⟩⟩;refine ⟨_,rfl,?_⟩) | ((with_reducible refine zQb (f := 36) rfl ?_);refine zQh (some 6) rfl rfl Tryz.func36 (by kernel_rfl) rfl #[.int .u64 (Go.bits .xor .u64 aA 9223372036854775808)] rfl pM ?_;(with_reducible refine (flo_canon.calls (Go.bits .xor .u64 aA 9223372036854775808) aC _ A3.out).mono ?_);rintro e w' ⟨rfl,⟨nd,rfl⟩⟩;refine ⟨_,rfl,?_⟩))
 go_ret
 exact ⟨pS,pQ0⟩
def value_ToNum.f (k : Nat) (a0_0 : Int) (a0_1 : Int) (a0_2 : ByteArray) (a0_3 : Int) : Option (Int × Bool) := if a0_0 = 3 then ((flo_Canon.f a0_1).bind fun t243 => (some (t243,true))) else (if a0_0 = 4 then ((strings_CutPrefix.f a0_2 (⟨#[45]⟩ : ByteArray)).bind fun bt244 => ((dec_Parse.f k bt244.1).bind fun bt246 => (if bt246.2 = 0 then (if bt244.2 = true then ((flo_Neg.f bt246.1).bind fun t248 => (some (t248,true))) else (some (bt246.1,true))) else (some (0,false))))) else (some (0,false)))
theorem value_ToNum.mono : ∀ a0 a1 a2 a3 k,LeO (value_ToNum.f k a0 a1 a2 a3) (value_ToNum.f (k + 1) a0 a1 a2 a3) := by
 intro a0 a1 a2 a3 k;unfold value_ToNum.f
 repeat' first
   | (with_reducible exact dec_Parse.mono _ _)
   | (with_reducible exact LeO.refl _)
   | (with_reducible exact LeO.none _)
   | (with_reducible refine LeO.ite ?_ ?_)
   | (with_reducible refine LeO.bind ?_ (fun _ => ?_))
   | exact dec_Parse.mono _ _
   | exact LeO.none _
   | refine LeO.ite ?_ ?_
   | refine LeO.bind ?_ (fun _ => ?_)
theorem value_ToNum.calls (k : Nat) (a0_0 : Int) (a0_1 : Int) (a0_2 : ByteArray) (a0_3 : Int) (r1 : Int) (r2 : Bool) (w : World) (h : value_ToNum.f k a0_0 a0_1 a0_2 a0_3 = some (r1,r2)) :
  Calls Tryz.prog 5 #[.agg #[.int .i64 a0_0,.int .u64 a0_1,.string a0_2,.int .i64 a0_3]] w fun e w' => e = .returned (.tuple #[.int .u64 r1,.bool r2]) ∧ Below w.heap.size w w' := by
 have hu25 := Tryz.underlying25;have HB := am (Below.refl w.heap.size w);have H := h;unfold value_ToNum.f at H;clear h;rcases iT H with ⟨c2,H⟩ | ⟨c2,H⟩
 ·have aK : (a0_0 == 3) = true := beq_iff_eq.mpr c2;have aM : (a0_0 != 3) = false := bne_eq_false_iff_eq.mpr c2;clear c2;obtain ⟨aN,A3,H⟩ := oB H;(try dsimp only at H);simp only [Option.some.injEq,Prod.mk.injEq] at H;obtain ⟨rfl,rfl⟩ := H;go_enter Tryz.func5,Tryz.ntmps5;(go_wp2_with (first | ((with_reducible refine zQq (N := 1) rfl ?_);refine zQy ?hg (N := 1) ?hd (cs := #[.int .i64 a0_0,.int .u64 a0_1,.string a0_2,.int .i64 a0_3]) (t := 25) ?hr ?_;(case hd => rfl);(case hg => rfl);(case hr => first | (go_simp;done) | (go_simp;rfl));intro aC hg w4 hbox hb;have aA := am (hbox);have GW242 := am ((by rw [hg];exact (zQa pB) : w.heap.size ≤ aC));have GE242 := am ((by rw [hg];exact (zQa pB) : w.heap.size ≤ aC));replace HB := bS hb;clear hb hbox hg;have q5 := cf4 aA.out) | ((with_reducible refine zQb (f := 25) rfl ?_);refine zQh (some 14) rfl rfl Tryz.func25 (by kernel_rfl) rfl #[.int .u64 a0_1] rfl pM ?_;(with_reducible refine (flo_Canon.calls a0_1 aN _ A3.out).mono ?_);rintro e w' ⟨rfl,⟨nd,rfl⟩⟩;refine ⟨_,rfl,?_⟩)));go_ret2;exact ⟨pE,pB⟩
 ·have aK : (a0_0 == 3) = false := beq_eq_false_iff_ne.mpr c2;have aM : (a0_0 != 3) = true := bne_iff_ne.mpr c2;rcases iT H with ⟨c6,H⟩ | ⟨c6,H⟩
  ·have aQ : (a0_0 == 4) = true := beq_iff_eq.mpr c6;have aT : (a0_0 != 4) = false := bne_eq_false_iff_eq.mpr c6;clear c6;obtain ⟨⟨aD,aJ⟩,A7,H⟩ := oB H;(try dsimp only at H);obtain ⟨⟨aH,aG⟩,A8,H⟩ := oB H;(try dsimp only at H);rcases iT H with ⟨c9,H⟩ | ⟨c9,H⟩
   ·have aU : (aG == 0) = true := beq_iff_eq.mpr c9;have aV : (aG != 0) = false := bne_eq_false_iff_eq.mpr c9;clear c9;by_cases aI : aJ = true
    ·subst aI;rw [if_pos rfl] at H;obtain ⟨aW,aX,H⟩ := oB H;(try dsimp only at H);simp only [Option.some.injEq,Prod.mk.injEq] at H;obtain ⟨rfl,rfl⟩ := H;go_enter Tryz.func5,Tryz.ntmps5;(go_wp2_with (first | ((with_reducible refine zQq (N := 1) rfl ?_);refine zQy ?hg (N := 1) ?hd (cs := #[.int .i64 a0_0,.int .u64 a0_1,.string a0_2,.int .i64 a0_3]) (t := 25) ?hr ?_;(case hd => rfl);(case hg => rfl);(case hr => first | (go_simp;done) | (go_simp;rfl));intro aC hg aY hbox hb;have aA := am (hbox);have GW242 := am ((by rw [hg];exact (zQa pB) : w.heap.size ≤ aC));have GE242 := am ((by rw [hg];exact (zQa pB) : w.heap.size ≤ aC));replace HB := bS hb;clear hb hbox hg;have aZ := cf4 aA.out) | ((with_reducible refine zQb (f := 26) rfl ?_);refine zQh (some 20) rfl rfl Tryz.func26 (by kernel_rfl) rfl #[.string a0_2,.string (⟨#[45]⟩ : ByteArray)] rfl pM ?_;(with_reducible refine (strings_CutPrefix.calls a0_2 (⟨#[45]⟩ : ByteArray) aD true _ A7.out).mono ?_);rintro e w' ⟨rfl,⟨nd,rfl⟩⟩;refine ⟨_,rfl,?_⟩) | ((with_reducible refine zQb (f := 27) rfl ?_);refine zQh (some 25) rfl rfl Tryz.func27 (by kernel_rfl) rfl #[.string aD] rfl pM ?_;(with_reducible refine (dec_Parse.calls k aD aH aG _ A8.out).mono ?_);rintro e bA ⟨rfl,hb⟩;refine ⟨_,rfl,?_⟩;replace aA := am (pkb aA.out hb);replace HB := bS hb;(try clear hb)) | ((with_reducible refine zQb (f := 28) rfl ?_);refine zQh (some 32) rfl rfl Tryz.func28 (by kernel_rfl) rfl #[.int .u64 aH] rfl pM ?_;(with_reducible refine (flo_Neg.calls aH aW _ aX.out).mono ?_);rintro e w' ⟨rfl,⟨nd,rfl⟩⟩;refine ⟨_,rfl,?_⟩)));go_ret2;exact ⟨pE,pB⟩
    ·replace aI := Bool.eq_false_iff.mpr aI;subst aI;rw [if_neg (show ¬ (false = true) by decide)] at H;simp only [Option.some.injEq,Prod.mk.injEq] at H;obtain ⟨rfl,rfl⟩ := H;go_enter Tryz.func5,Tryz.ntmps5;(go_wp2_with (first | ((with_reducible refine zQq (N := 1) rfl ?_);refine zQy ?hg (N := 1) ?hd (cs := #[.int .i64 a0_0,.int .u64 a0_1,.string a0_2,.int .i64 a0_3]) (t := 25) ?hr ?_;(case hd => rfl);(case hg => rfl);(case hr => first | (go_simp;done) | (go_simp;rfl));intro aC hg bB hbox hb;have aA := am (hbox);have GW242 := am ((by rw [hg];exact (zQa pB) : w.heap.size ≤ aC));have GE242 := am ((by rw [hg];exact (zQa pB) : w.heap.size ≤ aC));replace HB := bS hb;clear hb hbox hg;obtain ⟨hcz16_0,hcz16_1,hcz16_2,hcz16_3,hfz16_0,hfz16_1,hfz16_2,hfz16_3⟩ := cf4 aA.out) | ((with_reducible refine zQb (f := 26) rfl ?_);refine zQh (some 20) rfl rfl Tryz.func26 (by kernel_rfl) rfl #[.string a0_2,.string (⟨#[45]⟩ : ByteArray)] rfl pM ?_;(with_reducible refine (strings_CutPrefix.calls a0_2 (⟨#[45]⟩ : ByteArray) aD false _ A7.out).mono ?_);rintro e w' ⟨rfl,⟨nd,rfl⟩⟩;refine ⟨_,rfl,?_⟩) | ((with_reducible refine zQb (f := 27) rfl ?_);refine zQh (some 25) rfl rfl Tryz.func27 (by kernel_rfl) rfl #[.string aD] rfl pM ?_;(with_reducible refine (dec_Parse.calls k aD aH aG _ A8.out).mono ?_);rintro e bC ⟨rfl,hb⟩;refine ⟨_,rfl,?_⟩;replace aA := am (pkb aA.out hb);replace HB := bS hb;(try clear hb))));go_ret2;exact ⟨pE,pB⟩
   ·have aU : (aG == 0) = false := beq_eq_false_iff_ne.mpr c9;have aV : (aG != 0) = true := bne_iff_ne.mpr c9;simp only [Option.some.injEq,Prod.mk.injEq] at H;obtain ⟨rfl,rfl⟩ := H;go_enter Tryz.func5,Tryz.ntmps5;(go_wp2_with (first | ((with_reducible refine zQq (N := 1) rfl ?_);refine zQy ?hg (N := 1) ?hd (cs := #[.int .i64 a0_0,.int .u64 a0_1,.string a0_2,.int .i64 a0_3]) (t := 25) ?hr ?_;(case hd => rfl);(case hg => rfl);(case hr => first | (go_simp;done) | (go_simp;rfl));intro aC hg bE hbox hb;have aA := am (hbox);have GW242 := am ((by rw [hg];exact (zQa pB) : w.heap.size ≤ aC));have GE242 := am ((by rw [hg];exact (zQa pB) : w.heap.size ≤ aC));replace HB := bS hb;clear hb hbox hg;have bF := cf4 aA.out) | ((with_reducible refine zQb (f := 26) rfl ?_);refine zQh (some 20) rfl rfl Tryz.func26 (by kernel_rfl) rfl #[.string a0_2,.string (⟨#[45]⟩ : ByteArray)] rfl pM ?_;(with_reducible refine (strings_CutPrefix.calls a0_2 (⟨#[45]⟩ : ByteArray) aD aJ _ A7.out).mono ?_);rintro e w' ⟨rfl,⟨nd,rfl⟩⟩;refine ⟨_,rfl,?_⟩) | ((with_reducible refine zQb (f := 27) rfl ?_);refine zQh (some 25) rfl rfl Tryz.func27 (by kernel_rfl) rfl #[.string aD] rfl pM ?_;(with_reducible refine (dec_Parse.calls k aD aH aG _ A8.out).mono ?_);rintro e bG ⟨rfl,hb⟩;refine ⟨_,rfl,?_⟩;replace aA := am (pkb aA.out hb);replace HB := bS hb;(try clear hb))));go_ret2;exact ⟨pE,pB⟩
  ·have aQ : (a0_0 == 4) = false := beq_eq_false_iff_ne.mpr c6;have aT : (a0_0 != 4) = true := bne_iff_ne.mpr c6;simp only [Option.some.injEq,Prod.mk.injEq] at H;obtain ⟨rfl,rfl⟩ := H;go_enter Tryz.func5,Tryz.ntmps5;(go_wp2_with (first | ((with_reducible refine zQq (N := 1) rfl ?_);refine zQy ?hg (N := 1) ?hd (cs := #[.int .i64 a0_0,.int .u64 a0_1,.string a0_2,.int .i64 a0_3]) (t := 25) ?hr ?_;(case hd => rfl);(case hg => rfl);(case hr => first | (go_simp;done) | (go_simp;rfl));intro aC hg bH hbox hb;have aA := am (hbox);have GW242 := am ((by rw [hg];exact (zQa pB) : w.heap.size ≤ aC));have GE242 := am ((by rw [hg];exact (zQa pB) : w.heap.size ≤ aC));replace HB := bS hb;clear hb hbox hg;have bI := cf4 aA.out)));go_ret2;exact ⟨pE,pB⟩
end Go.Proofs.YtongfmeediokmaaGreatDoor.Pr
end
section
namespace Go.Proofs.YtongfmeediokmaaGreatDoor.Pr
open Go.RowKit Go.Proofs.YtongfmeediokmaaGreatDoorW.PrintWords Go.Proofs.YtongfmeediokmaaGreatDoorW.PrintLast Go.Proofs.YtongfmeediokmaaGreatDoorW.PrintMore Go.Proofs.YtongfmeediokmaaGreatDoor.Pv
attribute [local go_sem] zXc zXa zXm zXl zQO zQN zXb zQZ
set_option maxHeartbeats 8000000
set_option maxRecDepth 100000
mutual
def r1_Kind.j0 : Nat → Int → Int → Bool → Option (Int)
 | 0,_,_,_ => none
 | k + 1,x3,x4,x15 => if x15 = true then (some 4) else (if x3 = 2047 then (some 3) else (if x3 = 0 then (r1_Kind.j1 k x3 (x4 == 0)) else (r1_Kind.j1 k x3 false)))
def r1_Kind.j1 : Nat → Int → Bool → Option (Int)
 | 0,_,_ => none
 | k + 1,x3,x23 => if x23 = true then (some 0) else (if x3 = 0 then (some 1) else (some 2))
end
def r1_Kind.f (k : Nat) (a0 : Int) : Option (Int) := if (Go.bits .and .u64 (a0 / 4503599627370496) 2047) = 2047 then (r1_Kind.j0 k (Go.bits .and .u64 (a0 / 4503599627370496) 2047) (Go.bits .and .u64 a0 4503599627370495) ((Go.bits .and .u64 a0 4503599627370495) != 0)) else (r1_Kind.j0 k (Go.bits .and .u64 (a0 / 4503599627370496) 2047) (Go.bits .and .u64 a0 4503599627370495) false)
theorem r1_Kind.calls (k : Nat) (a0 : Int) (r : Int) (w : World) (h : r1_Kind.f k a0 = some r) :
  Calls Tryz.prog 13 #[.int .u64 a0] w fun e w' => e = .returned (.int .i64 r) ∧ Drawn0 w w' := by
 have H := h;unfold r1_Kind.f at H;clear h;have HC2 := am H;clear H;go_enter Tryz.func13,Tryz.ntmps13;go_upto_region 2 with (fail)
 go_cut [15] (fun v15 wc => ∃ (kq : Nat) (aH : Bool),v15 = .bool aH ∧ Aside0 (r1_Kind.j0 kq (Go.bits .and .u64 (a0 / 4503599627370496) 2047) (Go.bits .and .u64 a0 4503599627370495) aH = some r) ∧ Aside0 (kq ≤ k) ∧ Drawn0 w wc)
 case first =>
  have H := HC2.out;clear HC2;rcases iT H with ⟨c3,H⟩ | ⟨c3,H⟩
  ·have aA : ((Go.bits .and .u64 (a0 / 4503599627370496) 2047) == 2047) = true := beq_iff_eq.mpr c3;have aC : ((Go.bits .and .u64 (a0 / 4503599627370496) 2047) != 2047) = false := bne_eq_false_iff_eq.mpr c3;clear c3;(first | rw [aA] | (simp only [i64_w,i32_w];rw [aA]) | rw [aC] | (simp only [i64_w,i32_w];rw [aC]) | skip);have H' := am H;clear H;go_wp2;go_meet
   case rel => exact ⟨_,(((Go.bits .and .u64 a0 4503599627370495) != 0)),pS,H',⟨by first | omega | exact Nat.le_refl _⟩,pQ0⟩
  ·have aA : ((Go.bits .and .u64 (a0 / 4503599627370496) 2047) == 2047) = false := beq_eq_false_iff_ne.mpr c3;have aC : ((Go.bits .and .u64 (a0 / 4503599627370496) 2047) != 2047) = true := bne_iff_ne.mpr c3;(first | rw [aA] | (simp only [i64_w,i32_w];rw [aA]) | rw [aC] | (simp only [i64_w,i32_w];rw [aC]) | skip);have H' := am H;clear H;go_wp2;go_meet
   case rel => exact ⟨_,(false),pS,H',⟨by first | omega | exact Nat.le_refl _⟩,pQ0⟩
 case rest =>
  clear HC2;(try clear c1);(try clear p2);(try clear c3);(try clear aA);(try clear aC);obtain ⟨kq,aH,rfl,HA,aM,⟨mc1,rfl⟩⟩ := hcut
  cases kq with
  | zero => exact absurd HA.out (by simp [r1_Kind.j0])
  | succ aT =>
   have H := HA.out;clear HA;simp only [r1_Kind.j0] at H;by_cases c4 : aH = true
   ·subst c4;rw [if_pos rfl] at H;obtain rfl := Option.some.inj H;go_wp2
    go_ret
    exact ⟨pS,pQ0⟩
   ·replace c4 := Bool.eq_false_iff.mpr c4;subst c4;rw [if_neg (show ¬ (false = true) by decide)] at H;rcases iT H with ⟨c5,H⟩ | ⟨c5,H⟩
    ·have aJ : ((Go.bits .and .u64 (a0 / 4503599627370496) 2047) == 2047) = true := beq_iff_eq.mpr c5;have aK : ((Go.bits .and .u64 (a0 / 4503599627370496) 2047) != 2047) = false := bne_eq_false_iff_eq.mpr c5;clear c5;obtain rfl := Option.some.inj H;go_wp2
     go_ret
     exact ⟨pS,pQ0⟩
    ·have aJ : ((Go.bits .and .u64 (a0 / 4503599627370496) 2047) == 2047) = false := beq_eq_false_iff_ne.mpr c5;have aK : ((Go.bits .and .u64 (a0 / 4503599627370496) 2047) != 2047) = true := bne_iff_ne.mpr c5;have HC6 := am H;clear H;go_upto_region 6 with (fail)
     go_cut [23] (fun v23 wc => ∃ (kq : Nat) (aI : Bool),v23 = .bool aI ∧ Aside0 (r1_Kind.j1 kq (Go.bits .and .u64 (a0 / 4503599627370496) 2047) aI = some r) ∧ Aside0 (kq ≤ aT) ∧ Drawn0 w wc)
     case first =>
      have H := HC6.out;clear HC6;rcases iT H with ⟨c7,H⟩ | ⟨c7,H⟩
      ·have aD : ((Go.bits .and .u64 (a0 / 4503599627370496) 2047) == 0) = true := beq_iff_eq.mpr c7;have aG : ((Go.bits .and .u64 (a0 / 4503599627370496) 2047) != 0) = false := bne_eq_false_iff_eq.mpr c7;clear c7;(first | rw [aD] | (simp only [i64_w,i32_w];rw [aD]) | rw [aG] | (simp only [i64_w,i32_w];rw [aG]) | skip);have H' := am H;clear H;go_wp2;go_meet
       case rel => exact ⟨_,(((Go.bits .and .u64 a0 4503599627370495) == 0)),pS,H',⟨by have := aM.out;first | omega | exact Nat.le_refl _⟩,pQ0⟩
      ·have aD : ((Go.bits .and .u64 (a0 / 4503599627370496) 2047) == 0) = false := beq_eq_false_iff_ne.mpr c7;have aG : ((Go.bits .and .u64 (a0 / 4503599627370496) 2047) != 0) = true := bne_iff_ne.mpr c7;(first | rw [aD] | (simp only [i64_w,i32_w];rw [aD]) | rw [aG] | (simp only [i64_w,i32_w];rw [aG]) | skip);have H' := am H;clear H;go_wp2;go_meet
       case rel => exact ⟨_,(false),pS,H',⟨by have := aM.out;first | omega | exact Nat.le_refl _⟩,pQ0⟩
     case rest =>
      clear HC6;(try clear c1);(try clear p2);(try clear c3);(try clear aA);(try clear aC);(try clear c4);(try clear c5);(try clear aJ);(try clear aK);(try clear c7);(try clear aD);(try clear aG);(try clear p2);obtain ⟨kq,aI,rfl,HA,aU,⟨mc5,rfl⟩⟩ := hcut
      cases kq with
      | zero => exact absurd HA.out (by simp [r1_Kind.j1])
      | succ aV =>
       have H := HA.out;clear HA;simp only [r1_Kind.j1] at H;by_cases c8 : aI = true
       ·subst c8;rw [if_pos rfl] at H;obtain rfl := Option.some.inj H;go_wp2
        go_ret
        exact ⟨pS,pQ0⟩
       ·replace c8 := Bool.eq_false_iff.mpr c8;subst c8;rw [if_neg (show ¬ (false = true) by decide)] at H;rcases iT H with ⟨c9,H⟩ | ⟨c9,H⟩
        ·have aN : ((Go.bits .and .u64 (a0 / 4503599627370496) 2047) == 0) = true := beq_iff_eq.mpr c9;have aQ : ((Go.bits .and .u64 (a0 / 4503599627370496) 2047) != 0) = false := bne_eq_false_iff_eq.mpr c9;clear c9;obtain rfl := Option.some.inj H;go_wp2
         go_ret
         exact ⟨pS,pQ0⟩
        ·have aN : ((Go.bits .and .u64 (a0 / 4503599627370496) 2047) == 0) = false := beq_eq_false_iff_ne.mpr c9;have aQ : ((Go.bits .and .u64 (a0 / 4503599627370496) 2047) != 0) = true := bne_iff_ne.mpr c9;obtain rfl := Option.some.inj H;go_wp2
         go_ret
         exact ⟨pS,pQ0⟩
def r1_Nan.f  : Option (Int) := some 9221120237041090560
theorem r1_Nan.calls  (r : Int) (w : World) (h : r1_Nan.f  = some r) :
  Calls Tryz.prog 40 #[] w fun e w' => e = .returned (.int .u64 r) ∧ Drawn0 w w' := by
 have H : (some 9221120237041090560) = some r := h;clear h;obtain rfl := Option.some.inj H;go_enter Tryz.func40,Tryz.ntmps40;go_wp2
 go_ret
 exact ⟨pS,pQ0⟩
def r1_Canon.f (k : Nat) (a0 : Int) : Option (Int) := (r1_Kind.f k a0).bind fun t249 => (if t249 = 4 then ((r1_Nan.f).bind fun t250 => (some t250)) else (some a0))
theorem r1_Canon.calls (k : Nat) (a0 : Int) (r : Int) (w : World) (h : r1_Canon.f k a0 = some r) :
  Calls Tryz.prog 29 #[.int .u64 a0] w fun e w' => e = .returned (.int .u64 r) ∧ Drawn0 w w' := by
 have H := h;unfold r1_Canon.f at H;clear h;obtain ⟨aA,A2,H⟩ := oB H;(try dsimp only at H);rcases iT H with ⟨c3,H⟩ | ⟨c3,H⟩
 ·have aC : (aA == 4) = true := beq_iff_eq.mpr c3;have aD : (aA != 4) = false := bne_eq_false_iff_eq.mpr c3;clear c3;obtain ⟨aG,A4,H⟩ := oB H;(try dsimp only at H);obtain rfl := Option.some.inj H;go_enter Tryz.func29,Tryz.ntmps29;go_wp2_with (first | ((with_reducible refine zQb (f := 13) rfl ?_);refine zQh (some 4) rfl rfl Tryz.func13 (by kernel_rfl) rfl #[.int .u64 a0] rfl pM ?_;(with_reducible refine (r1_Kind.calls k a0 aA _ A2.out).mono ?_);rintro e w' ⟨rfl,⟨nd,rfl⟩⟩;refine ⟨_,rfl,?_⟩) | ((with_reducible refine zQb (f := 40) rfl ?_);refine zQh (some 6) rfl rfl Tryz.func40 (by kernel_rfl) rfl #[] rfl pM ?_;(with_reducible refine (r1_Nan.calls  aG _ A4.out).mono ?_);rintro e w' ⟨rfl,⟨nd,rfl⟩⟩;refine ⟨_,rfl,?_⟩))
  go_ret
  exact ⟨pS,pQ0⟩
 ·have aC : (aA == 4) = false := beq_eq_false_iff_ne.mpr c3;have aD : (aA != 4) = true := bne_iff_ne.mpr c3;obtain rfl := Option.some.inj H;go_enter Tryz.func29,Tryz.ntmps29;go_wp2_with (first | ((with_reducible refine zQb (f := 13) rfl ?_);refine zQh (some 4) rfl rfl Tryz.func13 (by kernel_rfl) rfl #[.int .u64 a0] rfl pM ?_;(with_reducible refine (r1_Kind.calls k a0 aA _ A2.out).mono ?_);rintro e w' ⟨rfl,⟨nd,rfl⟩⟩;refine ⟨_,rfl,?_⟩))
  go_ret
  exact ⟨pS,pQ0⟩
def r5_digits.l0 : Nat → ByteArray → Int → Option (Int)
 | 0,_,_ => none
 | k + 1,x0,x1 => if x1 < (x0.size : Int) then (if 0 ≤ x1 then (if (bt x0 x1) ≥ 48 then (if (bt x0 x1) ≤ 57 then (r5_digits.l0 k x0 (wrap64 (x1 + 1))) else (some x1)) else (some x1)) else (none)) else (some x1)
def r5_digits.f (k : Nat) (a0 : ByteArray) (a1 : Int) : Option (Int) := r5_digits.l0 k a0 a1
theorem r5_digits.mono_l : ∀ k,(∀ y0 y1,LeO (r5_digits.l0 k y0 y1) (r5_digits.l0 (k + 1) y0 y1))
 | 0 => fun _ _ r h => by simp [r5_digits.l0] at h
 | k + 1 => by
  have ih0 := r5_digits.mono_l k
  ·intro y0 y1;unfold r5_digits.l0;repeat' first
   | (with_reducible exact ih0 _ _)
   | (with_reducible exact LeO.refl _)
   | (with_reducible exact LeO.none _)
   | (with_reducible refine LeO.ite ?_ ?_)
   | (with_reducible refine LeO.bind ?_ (fun _ => ?_))
   | exact ih0 _ _
   | exact LeO.none _
   | refine LeO.ite ?_ ?_
   | refine LeO.bind ?_ (fun _ => ?_)
theorem r5_digits.mono : ∀ a0 a1 k,LeO (r5_digits.f k a0 a1) (r5_digits.f (k + 1) a0 a1) := by
 intro a0 a1 k;have ih0 := r5_digits.mono_l k;unfold r5_digits.f
 repeat' first
   | (with_reducible exact ih0 _ _)
   | (with_reducible exact LeO.refl _)
   | (with_reducible exact LeO.none _)
   | (with_reducible refine LeO.ite ?_ ?_)
   | (with_reducible refine LeO.bind ?_ (fun _ => ?_))
   | exact ih0 _ _
   | exact LeO.none _
   | refine LeO.ite ?_ ?_
   | refine LeO.bind ?_ (fun _ => ?_)
theorem r5_digits.calls (k : Nat) (a0 : ByteArray) (a1 : Int) (r : Int) (w : World) (h : r5_digits.f k a0 a1 = some r) :
  Calls Tryz.prog 60 #[.string a0,.int .i64 a1] w fun e w' => e = .returned (.int .i64 r) ∧ Drawn0 w w' := by
 have H : (r5_digits.l0 k a0 a1) = some r := h;clear h;have H' := am H;clear H;go_enter Tryz.func60,Tryz.ntmps60;go_wp2
 go_loopg [1] k (fun kq v1 w' => ∃ (aA : Int),v1 = .int .i64 aA ∧ Aside0 (r5_digits.l0 kq a0 aA = some r) ∧ Aside0 (kq ≤ k) ∧ Drawn0 w w')
 case atStart => exact ⟨(a1),pS,H',⟨Nat.le_refl _⟩,pQ0⟩
 case round =>
  clear H';(try clear p2);obtain ⟨aA,rfl,HA,aC,⟨m1,rfl⟩⟩ := hrel
  cases gk with
  | zero => exact absurd HA.out (by simp [r5_digits.l0])
  | succ k1 =>
   have H := HA.out;clear HA;simp only [r5_digits.l0] at H;rcases iT H with ⟨c3,H⟩ | ⟨c3,H⟩
   ·have aG : decide (aA < (a0.size : Int)) = true := decide_eq_true c3;clear c3;obtain ⟨c4,H⟩ := iN H;have aK : decide (0 ≤ aA) = true := decide_eq_true c4;clear c4;rcases iT H with ⟨c6,H⟩ | ⟨c6,H⟩
    ·have aH : decide (48 ≤ (bt a0 aA)) = true := decide_eq_true c6;clear c6;rcases iT H with ⟨c8,H⟩ | ⟨c8,H⟩
     ·have aI : decide ((bt a0 aA) ≤ 57) = true := decide_eq_true c8;clear c8;have H' := am H;clear H;have p5 : 0 ≤ (aA : Int) := pD;have q5 : aA < (a0.size : Int) := pD;have aD := bt_at a0 aA;replace p5 := eq_true p5;replace q5 := eq_true q5;have p7 : 0 ≤ (aA : Int) := pD;have q7 : aA < (a0.size : Int) := pD;have aJ := bt_at a0 aA;replace p7 := eq_true p7;replace q7 := eq_true q7;go_wp2
      go_roundg k1
      case measure => have := aC.out;omega
      case rel => exact ⟨(wrap64 (aA + 1)),pS,H',⟨by have := aC.out;omega⟩,pQ0⟩
     ·have aI : decide ((bt a0 aA) ≤ 57) = false := decide_eq_false c8;clear c8;obtain rfl := Option.some.inj H;have p5 : 0 ≤ (aA : Int) := pD;have q5 : aA < (a0.size : Int) := pD;have aD := bt_at a0 aA;replace p5 := eq_true p5;replace q5 := eq_true q5;have p7 : 0 ≤ (aA : Int) := pD;have q7 : aA < (a0.size : Int) := pD;have aJ := bt_at a0 aA;replace p7 := eq_true p7;replace q7 := eq_true q7;go_wp2
      go_ret
      exact ⟨pS,pQ0⟩
    ·have aH : decide (48 ≤ (bt a0 aA)) = false := decide_eq_false c6;clear c6;obtain rfl := Option.some.inj H;have p5 : 0 ≤ (aA : Int) := pD;have q5 : aA < (a0.size : Int) := pD;have aD := bt_at a0 aA;replace p5 := eq_true p5;replace q5 := eq_true q5;go_wp2
     go_ret
     exact ⟨pS,pQ0⟩
   ·have aG : decide (aA < (a0.size : Int)) = false := decide_eq_false c3;clear c3;obtain rfl := Option.some.inj H;go_wp2
    go_ret
    exact ⟨pS,pQ0⟩
end Go.Proofs.YtongfmeediokmaaGreatDoor.Pr
end
section
namespace Go.Proofs.YtongfmeediokmaaGreatDoor.Pr
open Go.RowKit Go.Proofs.YtongfmeediokmaaGreatDoorW.PrintWords Go.Proofs.YtongfmeediokmaaGreatDoorW.PrintLast Go.Proofs.YtongfmeediokmaaGreatDoorW.PrintMore Go.Proofs.YtongfmeediokmaaGreatDoor.Pv
attribute [local go_sem] zXc zXa zXm zXl zQO zQN zXb zQZ
mutual
def r5_Read.j0 : Nat → ByteArray → Int → Bool → ByteArray → Int → Option (ByteArray × Int × Bool)
 | 0,_,_,_,_,_ => none
 | k + 1,x0,x5,x29,x253000,x253001 => if x29 = true then ((r5_digits.f k x0 (wrap64 (x5 + 1))).bind fun t254 => (if t254 = (wrap64 (x5 + 1)) then (some (x253000,x253001,false)) else (if 0 ≤ (wrap64 (x5 + 1)) then (if (wrap64 (x5 + 1)) ≤ t254 then (if t254 ≤ (x0.size : Int) then (if x253000.size + (x0.extract ((wrap64 (x5 + 1)) : Int).toNat (t254 : Int).toNat).size ≤ 9223372036854775807 then (r5_Read.j1 k x0 t254 (x253000 ++ (x0.extract ((wrap64 (x5 + 1)) : Int).toNat (t254 : Int).toNat)) (wrap64 ((wrap64 (x5 + 1)) - t254))) else (none)) else (none)) else (none)) else (none)))) else (r5_Read.j1 k x0 x5 x253000 x253001)
def r5_Read.j1 : Nat → ByteArray → Int → ByteArray → Int → Option (ByteArray × Int × Bool)
 | 0,_,_,_,_ => none
 | k + 1,x0,x5,x253000,x253001 => if x5 = (x0.size : Int) then (some (x253000,x253001,true)) else (if 0 ≤ x5 then (if x5 < (x0.size : Int) then (if (bt x0 x5) = 101 then (r5_Read.j2 k x0 x5 false x253000 x253001) else (r5_Read.j2 k x0 x5 ((bt x0 x5) != 69) x253000 x253001)) else (none)) else (none))
def r5_Read.j2 : Nat → ByteArray → Int → Bool → ByteArray → Int → Option (ByteArray × Int × Bool)
 | 0,_,_,_,_,_ => none
 | k + 1,x0,x5,x68,x253000,x253001 => if x68 = true then (some (x253000,x253001,false)) else (if (wrap64 (x5 + 1)) < (x0.size : Int) then (if 0 ≤ (wrap64 (x5 + 1)) then (if (bt x0 (wrap64 (x5 + 1))) = 43 then (r5_Read.j3 k x0 (wrap64 (x5 + 1)) false true x253000 x253001) else (r5_Read.j3 k x0 (wrap64 (x5 + 1)) false ((bt x0 (wrap64 (x5 + 1))) == 45) x253000 x253001)) else (none)) else (r5_Read.j3 k x0 (wrap64 (x5 + 1)) false false x253000 x253001))
def r5_Read.j3 : Nat → ByteArray → Int → Bool → Bool → ByteArray → Int → Option (ByteArray × Int × Bool)
 | 0,_,_,_,_,_,_ => none
 | k + 1,x0,x5,x7,x87,x253000,x253001 => if x87 = true then (if 0 ≤ x5 then (if x5 < (x0.size : Int) then (r5_Read.j4 k x0 (wrap64 (x5 + 1)) ((bt x0 x5) == 45) x253000 x253001) else (none)) else (none)) else (r5_Read.j4 k x0 x5 x7 x253000 x253001)
def r5_Read.j4 : Nat → ByteArray → Int → Bool → ByteArray → Int → Option (ByteArray × Int × Bool)
 | 0,_,_,_,_,_ => none
 | k + 1,x0,x5,x7,x253000,x253001 => if x5 = (x0.size : Int) then (r5_Read.j5 k x0 x5 x7 true x253000 x253001) else ((r5_digits.f k x0 x5).bind fun t255 => (r5_Read.j5 k x0 x5 x7 (t255 != (x0.size : Int)) x253000 x253001))
def r5_Read.j5 : Nat → ByteArray → Int → Bool → Bool → ByteArray → Int → Option (ByteArray × Int × Bool)
 | 0,_,_,_,_,_,_ => none
 | k + 1,x0,x5,x7,x105,x253000,x253001 => if x105 = true then (some (x253000,x253001,false)) else (r5_Read.l0 k x0 x7 0 x5 x253000 x253001)
def r5_Read.l0 : Nat → ByteArray → Bool → Int → Int → ByteArray → Int → Option (ByteArray × Int × Bool)
 | 0,_,_,_,_,_,_ => none
 | k + 1,x0,x7,x8,x9,x253000,x253001 => if x9 < (x0.size : Int) then (if x8 < 9999 then (if 0 ≤ x9 then (r5_Read.l0 k x0 x7 (wrap64 ((wrap64 (10 * x8)) + (((bt x0 x9) - 48) % 256))) (wrap64 (x9 + 1)) x253000 x253001) else (none)) else (r5_Read.l0 k x0 x7 x8 (wrap64 (x9 + 1)) x253000 x253001)) else (if x8 > 9999 then (if x7 = true then (some (x253000,wrap64 (x253001 + (-9999)),true)) else (some (x253000,wrap64 (x253001 + 9999),true))) else (if x7 = true then (some (x253000,wrap64 (x253001 + (wrap64 (-x8))),true)) else (some (x253000,wrap64 (x253001 + x8),true))))
end
def r5_Read.f (k : Nat) (a0 : ByteArray) : Option (ByteArray × Int × Bool) := (r5_digits.f k a0 0).bind fun t253 => (if t253 = 0 then (some ((⟨#[]⟩ : ByteArray),0,false)) else (if 0 ≤ t253 then (if t253 ≤ (a0.size : Int) then (if t253 < (a0.size : Int) then (r5_Read.j0 k a0 t253 ((bt a0 t253) == 46) (a0.extract 0 (t253 : Int).toNat) 0) else (r5_Read.j0 k a0 t253 false (a0.extract 0 (t253 : Int).toNat) 0)) else (none)) else (none)))
def r5_Read.T10 : Bool × List (List Nat × List Nat) := (true,[([],[]),([0],[0]),([],[]),([],[]),([3],[3]),([],[]),([2,4,5],[2,4,5]),([1,6],[1,6]),([],[]),([8],[8]),([],[]),([9,10],[9,10]),([0,1,2,3,4,5,6,7],[]),([12,7,0,1,2,3,4,5,6,7],[7,12]),([0,1,2,3,4,5,6,7,8,9,10,11,12,13],[]),([14,11,13,0,1,2,3,4,5,6,7,8,9,10,11,12,13],[11,14])])
def r5_Read.B10 : List Nat := [0,1,0,0,8,0,60,127,0,256,0,1792,255,4351,16383,32767]
theorem r5_Read.tab10 : rtab .any (opsOf Tryz.f41 10) = r5_Read.T10 := by kernel_rfl
theorem r5_Read.zFW : zXK r5_Read.T10.2 r5_Read.B10 = true := by kernel_rfl
set_option maxHeartbeats 8000000 in
set_option maxRecDepth 100000 in
theorem r5_Read.calls (k : Nat) (a0 : ByteArray) (r1 : ByteArray) (r2 : Int) (r3 : Bool) (w : World) (h : r5_Read.f k a0 = some (r1,r2,r3)) :
  Calls Tryz.prog 41 #[.string a0] w fun e w' => e = .returned (.tuple #[.agg #[.string r1,.int .i64 r2],.bool r3]) ∧ Below w.heap.size w w' := by
 have hu55 := Tryz.underlying55;have HB := am (Below.refl w.heap.size w);have H := h;unfold r5_Read.f at H;clear h;obtain ⟨aM,A2,H⟩ := oB H;(try dsimp only at H);rcases iT H with ⟨c3,H⟩ | ⟨c3,H⟩
 ·have dC : (aM == 0) = true := beq_iff_eq.mpr c3;have dD : (aM != 0) = false := bne_eq_false_iff_eq.mpr c3;clear c3;simp only [Option.some.injEq,Prod.mk.injEq] at H;obtain ⟨rfl,rfl,rfl⟩ := H;go_enter Tryz.func41,Tryz.ntmps41;go_wp2_with (first | ((with_reducible refine zQq (N := 2) rfl ?_);(try (refine zXM (by rfl) ?_;dsimp only));refine zQy ?hg (N := 2) ?hd (cs := #[.string (⟨#[]⟩ : ByteArray),.int .i64 0]) (t := 55) ?hr ?_;(case hd => rfl);(case hg => rfl);(case hr => first | (go_simp;done) | (go_simp;rfl));intro aK hg w4 hbox hb;have aC := am (hbox);have GW251 := am ((by rw [hg];exact (zQa pB) : w.heap.size ≤ aK));have GE251 := am ((by rw [hg];exact (zQa pB) : w.heap.size ≤ aK));replace HB := bS hb;clear hb hbox hg) | ((with_reducible refine zQq (N := 4) rfl ?_);(try (refine zXM (by rfl) ?_;dsimp only));refine zQy ?hg (N := 4) ?hd (cs := #[.string (⟨#[]⟩ : ByteArray),.int .i64 0]) (t := 55) ?hr ?_;(case hd => rfl);(case hg => rfl);(case hr => first | (go_simp;done) | (go_simp;rfl));intro aN hg w5 hbox hb;have aD := am (hbox);have GW252 := am ((by rw [hg];exact (zQa pB) : w.heap.size ≤ aN));have GE252 := am ((by rw [hg];exact (zQa pB) : w.heap.size ≤ aN));have NB251_252 := am ((by rw [hg];exact Nat.ne_of_lt (pkl aC.out) : aK ≠ aN));have NB252_251 := am ((by rw [hg];exact Nat.ne_of_gt (pkl aC.out) : aN ≠ aK));replace aC := am (pkb aC.out hb);replace HB := bS hb;clear hb hbox hg;have hnb6 := NB252_251.out;have hnc6 := NB251_252.out;have q7 := cf2 aD.out) | ((with_reducible refine zQb (f := 60) rfl ?_);refine zQh (some 12) rfl rfl Tryz.func60 (by kernel_rfl) rfl #[.string a0,.int .i64 0] rfl pM ?_;(with_reducible refine (r5_digits.calls k a0 0 aM _ A2.out).mono ?_);rintro e w' ⟨rfl,⟨nd,rfl⟩⟩;refine ⟨_,rfl,?_⟩;have q8 := cf2 aC.out))
  refine bodyPost_ret (zXf rfl _ _ aK 55 #[.string (⟨#[]⟩ : ByteArray),.int .i64 0] (0,0) _ rfl (by (iterate 2 ((with_reducible repeat (first | refine zQc ?_ _ | refine zQe ?_ | refine zQd ?_ _));refine zQl (cs := #[.string (⟨#[]⟩ : ByteArray),.int .i64 0]) ?_ _ _ rfl));(with_reducible repeat (first | refine zQc ?_ _ | refine zQe ?_ | refine zQd ?_ _));refine zQB ?_ NB251_252.out _;(with_reducible repeat (first | refine zQc ?_ _ | refine zQe ?_ | refine zQd ?_ _));refine zQB ?_ NB251_252.out _;(with_reducible repeat (first | refine zQc ?_ _ | refine zQe ?_ | refine zQd ?_ _));exact aC.out) Tryz.underlying55 rfl (by kernel_rfl)) rfl ?_
  exact ⟨pE,pB⟩
 ·have dC : (aM == 0) = false := beq_eq_false_iff_ne.mpr c3;have dD : (aM != 0) = true := bne_iff_ne.mpr c3;obtain ⟨c9,H⟩ := iN H;have eF := eq_true c9;have eG : decide (0 ≤ aM) = true := decide_eq_true c9;clear c9;obtain ⟨dX,H⟩ := iN H;have bQ := eq_true dX;have bT : decide (aM ≤ (a0.size : Int)) = true := decide_eq_true dX;clear dX;obtain ⟨aT,aZ⟩ : ∃ j_ : ByteArray,(a0.extract 0 (aM : Int).toNat) = j_ := ⟨_,rfl⟩;(replace H : (if aM < (a0.size : Int) then (r5_Read.j0 k a0 aM ((bt a0 aM) == 46) aT 0) else (r5_Read.j0 k a0 aM false aT 0)) = some (r1,r2,r3) := by first | (rw [aZ] at H;exact H) | (simp only [aZ] at H ⊢;exact H) | exact H);(try rw [aZ] at A2);have HC12 := am H;clear H;go_enter Tryz.func41,Tryz.ntmps41;(go_upto_region 6 with (first | ((with_reducible refine zQq (N := 2) rfl ?_);(try (refine zXM (by rfl) ?_;dsimp only));refine zQy ?hg (N := 2) ?hd (cs := #[.string (⟨#[]⟩ : ByteArray),.int .i64 0]) (t := 55) ?hr ?_;(case hd => rfl);(case hg => rfl);(case hr => first | (go_simp;done) | (go_simp;rfl));intro aK hg jM hbox hb;have aC := am (hbox);have GW251 := am ((by rw [hg];exact (zQa pB) : w.heap.size ≤ aK));have GE251 := am ((by rw [hg];exact (zQa pB) : w.heap.size ≤ aK));replace HB := bS hb;clear hb hbox hg) | ((with_reducible refine zQq (N := 4) rfl ?_);(try (refine zXM (by rfl) ?_;dsimp only));refine zQy ?hg (N := 4) ?hd (cs := #[.string (⟨#[]⟩ : ByteArray),.int .i64 0]) (t := 55) ?hr ?_;(case hd => rfl);(case hg => rfl);(case hr => first | (go_simp;done) | (go_simp;rfl));intro aN hg jN hbox hb;have aD := am (hbox);have GW252 := am ((by rw [hg];exact (zQa pB) : w.heap.size ≤ aN));have GE252 := am ((by rw [hg];exact (zQa pB) : w.heap.size ≤ aN));have NB251_252 := am ((by rw [hg];exact Nat.ne_of_lt (pkl aC.out) : aK ≠ aN));have NB252_251 := am ((by rw [hg];exact Nat.ne_of_gt (pkl aC.out) : aN ≠ aK));replace aC := am (pkb aC.out hb);replace HB := bS hb;clear hb hbox hg;have hnb15 := NB252_251.out;have hnc15 := NB251_252.out;have fQ := cf2 aD.out) | ((with_reducible refine zQb (f := 60) rfl ?_);refine zQh (some 12) rfl rfl Tryz.func60 (by kernel_rfl) rfl #[.string a0,.int .i64 0] rfl pM ?_;(with_reducible refine (r5_digits.calls k a0 0 aM _ A2.out).mono ?_);rintro e w' ⟨rfl,⟨nd,rfl⟩⟩;refine ⟨_,rfl,?_⟩)));(try simp only [Act.put,List.setIfInBounds_toArray,List.set_cons_zero,List.set_cons_succ])
  go_cut [29] (fun v29 wc => ∃ (kq : Nat) (eO : Bool),v29 = .bool eO ∧ Aside0 (r5_Read.j0 kq a0 aM eO aT 0 = some (r1,r2,r3)) ∧ Aside0 (kq ≤ k) ∧ Aside0 (wc.heap[aK]? = some (.cells #[.string (⟨#[]⟩ : ByteArray),.int .i64 0] 55 (0,0))) ∧ Aside0 (wc.heap[aN]? = some (.cells #[.string aT,.int .i64 0] 55 (0,0))) ∧ Aside0 (Below w.heap.size w wc))
  case first =>
   have H := HC12.out;clear HC12;rcases iT H with ⟨cO,H⟩ | ⟨cO,H⟩
   ·have aV : decide (aM < (a0.size : Int)) = true := decide_eq_true cO;clear cO;(first | rw [aV] | (simp only [i64_w,i32_w];rw [aV]) | rw [bC] | (simp only [i64_w,i32_w];rw [bC]) | skip);have H' := am H;clear H;have bI : 0 ≤ (aM : Int) := pD;have bJ : aM < (a0.size : Int) := pD;have eH := bt_at a0 aM;replace bI := eq_true bI;replace bJ := eq_true bJ;go_wp2;go_meet
    case rel => exact ⟨_,(((bt a0 aM) == 46)),pS,H',⟨by first | omega | exact Nat.le_refl _⟩,⟨by (with_reducible repeat (first | refine zQc ?_ _ | refine zQe ?_ | refine zQd ?_ _));refine zQB ?_ NB251_252.out _;(with_reducible repeat (first | refine zQc ?_ _ | refine zQe ?_ | refine zQd ?_ _));refine zQB ?_ NB251_252.out _;(with_reducible repeat (first | refine zQc ?_ _ | refine zQe ?_ | refine zQd ?_ _));refine zQB ?_ NB251_252.out _;(with_reducible repeat (first | refine zQc ?_ _ | refine zQe ?_ | refine zQd ?_ _));exact aC.out⟩,⟨by (iterate 3 ((with_reducible repeat (first | refine zQc ?_ _ | refine zQe ?_ | refine zQd ?_ _));refine zQl (cs := #[.string (⟨#[]⟩ : ByteArray),.int .i64 0]) ?_ _ _ rfl));(with_reducible repeat (first | refine zQc ?_ _ | refine zQe ?_ | refine zQd ?_ _));exact aD.out⟩,⟨pB⟩⟩
   ·have aV : decide (aM < (a0.size : Int)) = false := decide_eq_false cO;clear cO;(first | rw [aV] | (simp only [i64_w,i32_w];rw [aV]) | rw [bC] | (simp only [i64_w,i32_w];rw [bC]) | skip);have H' := am H;clear H;go_wp2;go_meet
    case rel => exact ⟨_,(false),pS,H',⟨by first | omega | exact Nat.le_refl _⟩,⟨by (with_reducible repeat (first | refine zQc ?_ _ | refine zQe ?_ | refine zQd ?_ _));refine zQB ?_ NB251_252.out _;(with_reducible repeat (first | refine zQc ?_ _ | refine zQe ?_ | refine zQd ?_ _));refine zQB ?_ NB251_252.out _;(with_reducible repeat (first | refine zQc ?_ _ | refine zQe ?_ | refine zQd ?_ _));refine zQB ?_ NB251_252.out _;(with_reducible repeat (first | refine zQc ?_ _ | refine zQe ?_ | refine zQd ?_ _));exact aC.out⟩,⟨by (iterate 3 ((with_reducible repeat (first | refine zQc ?_ _ | refine zQe ?_ | refine zQd ?_ _));refine zQl (cs := #[.string (⟨#[]⟩ : ByteArray),.int .i64 0]) ?_ _ _ rfl));(with_reducible repeat (first | refine zQc ?_ _ | refine zQe ?_ | refine zQd ?_ _));exact aD.out⟩,⟨pB⟩⟩
  case rest =>
   clear HC12;(try clear c1);(try clear p1);(try clear q1);(try clear gF);(try clear p2);(try clear c3);(try clear dC);(try clear dD);(try clear c4);(try clear c6);(try clear c9);(try clear eF);(try clear eG);(try clear dX);(try clear bQ);(try clear bT);(try clear gG);(try clear cO);(try clear aV);(try clear bC);(try clear bI);(try clear bJ);(try clear eH);(try clear fQ q7 q8);(try clear bI);(try clear bJ);obtain ⟨kq,eO,rfl,HA,aY,aC,aD,HB⟩ := hcut
   cases kq with
   | zero => exact absurd HA.out (by simp [r5_Read.j0])
   | succ fT =>
    have H := HA.out;clear HA;simp only [r5_Read.j0] at H;have HC19 := am H;clear H
    go_upto_if 29 with (fail)
    go_cut [5] (fun v5 wc => ∃ (kq : Nat) (aI : Int) (aJ : ByteArray) (aH : Int) (aA : ByteArray) (aG : Int),v5 = .int .i64 aI ∧ Aside0 (r5_Read.j1 kq a0 aI aA aG = some (r1,r2,r3)) ∧ Aside0 (kq ≤ fT) ∧ Aside0 (wc.heap[aK]? = some (.cells #[.string aJ,.int .i64 aH] 55 (0,0))) ∧ Aside0 (wc.heap[aN]? = some (.cells #[.string aA,.int .i64 aG] 55 (0,0))) ∧ Aside0 (Below w.heap.size w wc))
    case first =>
     have H := HC19.out;clear HC19;by_cases dY : eO = true
     ·subst dY;rw [if_pos rfl] at H;obtain ⟨aU,iC,H⟩ := oB H;(try dsimp only at H);rcases iT H with ⟨cZ,H⟩ | ⟨cZ,H⟩
      ·have aW : (aU == (wrap64 (aM + 1))) = true := beq_iff_eq.mpr cZ;have aX : (aU != (wrap64 (aM + 1))) = false := bne_eq_false_iff_eq.mpr cZ;clear cZ;(first | rw [aW] | (simp only [i64_w,i32_w];rw [aW]) | rw [aX] | (simp only [i64_w,i32_w];rw [aX]) | skip);simp only [Option.some.injEq,Prod.mk.injEq] at H;obtain ⟨rfl,rfl,rfl⟩ := H;go_wp2_with (first | ((with_reducible refine zQb (f := 60) rfl ?_);refine zQh (some 33) rfl rfl Tryz.func60 (by kernel_rfl) rfl #[.string a0,.int .i64 (wrap64 (aM + 1))] rfl pM ?_;(with_reducible refine (r5_digits.calls fT a0 (wrap64 (aM + 1)) aU _ iC.out).mono ?_);rintro e w' ⟨rfl,⟨nd,rfl⟩⟩;refine ⟨_,rfl,?_⟩;(try (rw [zQX wc];generalize hq_ : World.drewN wc _ = wc;have n0_ : Aside0 (wc.heap[aK]? = some (.cells #[.string (⟨#[]⟩ : ByteArray),.int .i64 0] 55 (0,0))) := ⟨by rw [← hq_];exact (pK aC.out)⟩;have n1_ : Aside0 (wc.heap[aN]? = some (.cells #[.string aT,.int .i64 0] 55 (0,0))) := ⟨by rw [← hq_];exact (pK aD.out)⟩;have n2_ : Aside0 (Below w.heap.size w wc) := ⟨by rw [← hq_];exact pB⟩;clear aC aD HB hq_;have aC := n0_;have aD := n1_;have HB := n2_;clear n0_ n1_ n2_));have hnb23 := NB252_251.out;have hnc23 := NB251_252.out;have gH := cf2 aD.out;have gI := cf2 aC.out))
       refine bodyPost_ret (zXf rfl _ _ aK 55 #[.string aT,.int .i64 0] (0,0) _ rfl (by (with_reducible repeat (first | refine zQc ?_ _ | refine zQe ?_ | refine zQd ?_ _));refine zQl (cs := #[.string aT,.int .i64 0]) ?_ 1 _ rfl;(with_reducible repeat (first | refine zQc ?_ _ | refine zQe ?_ | refine zQd ?_ _));refine zQl (cs := #[.string (⟨#[]⟩ : ByteArray),.int .i64 0]) ?_ 0 _ rfl;(with_reducible repeat (first | refine zQc ?_ _ | refine zQe ?_ | refine zQd ?_ _));exact aC.out) Tryz.underlying55 rfl (by kernel_rfl)) rfl ?_
       exact ⟨by first | rfl | (simp [errW_none,errW_some] <;> rfl) | (simp only [← aZ];first | rfl | (simp [errW_none,errW_some] <;> rfl)) | (simp [*,errW_none,errW_some] <;> rfl),pB⟩
      ·have aW : (aU == (wrap64 (aM + 1))) = false := beq_eq_false_iff_ne.mpr cZ;have aX : (aU != (wrap64 (aM + 1))) = true := bne_iff_ne.mpr cZ;(first | rw [aW] | (simp only [i64_w,i32_w];rw [aW]) | rw [aX] | (simp only [i64_w,i32_w];rw [aX]) | skip);obtain ⟨bA,bV⟩ : ∃ j_ : Int,(wrap64 (aM + 1)) = j_ := ⟨_,rfl⟩;(replace H : (if 0 ≤ (bA) then (if (bA) ≤ aU then (if aU ≤ (a0.size : Int) then (if aT.size + (a0.extract ((bA) : Int).toNat (aU : Int).toNat).size ≤ 9223372036854775807 then (r5_Read.j1 fT a0 aU (aT ++ (a0.extract ((bA) : Int).toNat (aU : Int).toNat)) (wrap64 ((bA) - aU))) else (none)) else (none)) else (none)) else (none)) = some (r1,r2,r3) := by first | (rw [bV] at H;exact H) | (simp only [bV] at H ⊢;exact H));(try rw [bV] at aW);(try rw [bV] at aX);(try rw [bV] at iC);have jE : (IntKind.i64.wrap (aM + 1)) = bA := (i64_w _).trans bV;obtain ⟨eP,H⟩ := iN H;have dH := eq_true eP;have dI : decide (0 ≤ (bA)) = true := decide_eq_true eP;clear eP;obtain ⟨eQ,H⟩ := iN H;have dJ := eq_true eQ;have dK : decide ((bA) ≤ aU) = true := decide_eq_true eQ;clear eQ;obtain ⟨eT,H⟩ := iN H;have dL := eq_true eT;have dM : decide (aU ≤ (a0.size : Int)) = true := decide_eq_true eT;clear eT;obtain ⟨fF,gK⟩ : ∃ j_ : ByteArray,(a0.extract ((bA) : Int).toNat (aU : Int).toNat) = j_ := ⟨_,rfl⟩;(replace H : (if aT.size + (fF).size ≤ 9223372036854775807 then (r5_Read.j1 fT a0 aU (aT ++ (fF)) (wrap64 ((bA) - aU))) else (none)) = some (r1,r2,r3) := by first | (rw [gK] at H;exact H) | (simp only [gK] at H ⊢;exact H) | exact H);(try rw [gK] at iC);obtain ⟨eU,H⟩ := iN H;have dN := eq_true eU;have dO : decide (aT.size + (fF).size ≤ 9223372036854775807) = true := decide_eq_true eU;(try have dP : (9223372036854775807 < aT.size + (fF).size) = False := eq_false (Nat.not_lt.2 eU));have H' := am H;clear H;(try go_wp2_with (first | ((with_reducible refine zQb (f := 60) rfl ?_);refine zQh (some 33) rfl rfl Tryz.func60 (by kernel_rfl) rfl #[.string a0,.int .i64 bA] rfl (by (try simp only [List.map_toArray,List.map_cons,List.map_nil]);first | done | (simp only [bV];rfl) | rfl | (simp only [List.length_drop,List.length_take];rfl)) ?_;(with_reducible refine (r5_digits.calls fT a0 bA aU _ iC.out).mono ?_);rintro e w' ⟨rfl,⟨nd,rfl⟩⟩;refine ⟨_,rfl,?_⟩;(try (rw [zQX wc];generalize hq_ : World.drewN wc _ = wc;have n0_ : Aside0 (wc.heap[aK]? = some (.cells #[.string (⟨#[]⟩ : ByteArray),.int .i64 0] 55 (0,0))) := ⟨by rw [← hq_];exact (pK aC.out)⟩;have n1_ : Aside0 (wc.heap[aN]? = some (.cells #[.string aT,.int .i64 0] 55 (0,0))) := ⟨by rw [← hq_];exact (pK aD.out)⟩;have n2_ : Aside0 (Below w.heap.size w wc) := ⟨by rw [← hq_];exact pB⟩;clear aC aD HB hq_;have aC := n0_;have aD := n1_;have HB := n2_;clear n0_ n1_ n2_)))));replace aC := am (zQe aC.out);replace aD := am (zQe aD.out);replace HB := am (zQC HB.out);refine zXS (n := 16) (S := fun w' => w'.cell? ⟨aN,0,none⟩ = some (.string aT) ∧ w'.cell? ⟨aN,1,none⟩ = some (.int .i64 0)) (ds := [13,15]) (bm 16 0) (by kernel_rfl) rfl rfl ⟨cz0 aD.out,cz1 aD.out⟩ (fun hHeld => ?_);refine zXj r5_Read.tab10 r5_Read.zFW (fun HT_ HW_ => ?_);generalize wc.drew = iW at aC aD HB hHeld ⊢
       refine puA 0 (some 39) ?_ (bm 16 1) rfl rfl HT_.out (Or.inl ⟨by kernel_rfl,?_⟩) ?_ ?_ ?_
       rotate_left;(intro w';go_simp;with_reducible rfl);rotate_left;exact pA
       refine puA 2 (some 41) ?_ (bm 16 5) rfl rfl HT_.out (Or.inl ⟨by kernel_rfl,?_⟩) ?_ ?_ ?_
       rotate_left;(intro w';go_simp;with_reducible rfl);rotate_left;exact pA
       refine puA 3 (some 42) ?_ (bm 16 13) rfl rfl HT_.out (Or.inl ⟨by kernel_rfl,?_⟩) ?_ ?_ ?_
       rotate_left;(intro w';go_simp;with_reducible rfl);rotate_left;exact pA
       refine puA 4 (some 43) ?_ (bm 16 29) rfl rfl HT_.out (Or.inl ⟨by kernel_rfl,?_⟩) ?_ ?_ ?_
       rotate_left;(intro w';go_simp;with_reducible rfl);rotate_left;exact pA
       refine puA 5 (some 44) ?_ (bm 16 61) rfl rfl HT_.out (Or.inl ⟨by kernel_rfl,?_⟩) ?_ ?_ ?_
       rotate_left;(intro w';go_simp;with_reducible rfl);rotate_left;exact pA
       refine puA 6 (some 45) ?_ (bm 16 125) rfl rfl HT_.out (Or.inl ⟨by kernel_rfl,?_⟩) ?_ ?_ ?_
       rotate_left;(intro w';go_simp;with_reducible rfl);rotate_left;exact pA
       refine puA 8 (some 47) ?_ (bm 16 381) rfl rfl HT_.out (Or.inl ⟨by kernel_rfl,?_⟩) ?_ ?_ ?_
       rotate_left;(intro w';go_simp;with_reducible rfl);rotate_left;exact pA
       refine puA 9 (some 48) ?_ (bm 16 893) rfl rfl HT_.out (Or.inl ⟨by kernel_rfl,?_⟩) ?_ ?_ ?_
       rotate_left;(intro w';go_simp;with_reducible rfl);rotate_left;exact pA
       refine puA 10 (some 49) ?_ (bm 16 1917) rfl rfl HT_.out (Or.inl ⟨by kernel_rfl,?_⟩) ?_ ?_ ?_
       rotate_left;(intro w';go_simp;with_reducible rfl);rotate_left;exact pA
       refine puA 11 (some 50) ?_ (bm 16 3965) rfl rfl HT_.out (Or.inl ⟨by kernel_rfl,?_⟩) ?_ ?_ ?_
       rotate_left;(intro w';go_simp;with_reducible rfl);rotate_left;exact pA
       refine take_ (i := 1) (N := some 40) (v := ?_) (a' := ?_) (bm 16 3967) rfl rfl (zXg HT_.out HW_.out (by kernel_rfl)) (fun _ _ _ h => h) (Or.inl ⟨by kernel_rfl,?_⟩) hHeld ?_ ?_
       rotate_left;(rintro w' ⟨s0,s1⟩;go_simp;with_reducible rfl);rotate_left;exact pA
       refine puA 7 (some 46) ?_ (bm 16 4095) rfl rfl HT_.out (Or.inl ⟨by kernel_rfl,?_⟩) ?_ ?_ ?_
       rotate_left;(intro w';go_simp;with_reducible rfl);rotate_left;exact pA
       refine puA 12 (some 51) ?_ (bm 16 8191) rfl rfl HT_.out (Or.inl ⟨by kernel_rfl,?_⟩) ?_ ?_ ?_
       rotate_left;(intro w';go_simp;with_reducible rfl);rotate_left;exact pA;refine last_ (i := 13) (N := none) (bm 16 16383) rfl rfl (zQJ HT_.out (by kernel_rfl)) (by decide) (fun K hK => ?_);have hs33 : iW.cell? ⟨aN,0,none⟩ = some (.string aT) := cz0 aD.out;have hfs33 := zQz aD.out 0;have hns33_0 := NB251_252.out;have hms33_0 := NB252_251.out;refine skip_ (w1 := ?_) ?hw rfl ?_ ?_;(case hw => kernel_rfl);rotate_left
       ·go_simp
        rfl
       refine hK.out _ _ ?_
       clear hK K
       refine puA 14 (some 52) ?_ (bm 16 32767) rfl rfl HT_.out (Or.inl ⟨by kernel_rfl,?_⟩) ?_ ?_ ?_
       rotate_left;(intro w';go_simp;with_reducible rfl);rotate_left;exact pA;refine last_ (i := 15) (N := none) (bm 16 65535) rfl rfl (zQJ HT_.out (by kernel_rfl)) (by decide) (fun K hK => ?_);have hs34 : iW.cell? ⟨aN,1,none⟩ = some (.int .i64 0) := cz1 aD.out;have hfs34 := zQz aD.out 1;have hns34_0 := NB251_252.out;have hms34_0 := NB252_251.out;refine skip_ (w1 := ?_) ?hw rfl ?_ ?_;(case hw => kernel_rfl);rotate_left
       ·go_simp
        rfl
       refine hK.out _ _ ?_
       clear hK K
       refine done_ (zXI HT_.out (by kernel_rfl)) ?_
       (try go_wp2);go_meet
       case rel => exact ⟨_,(aU),((⟨#[]⟩ : ByteArray)),(0),(aT ++ (fF)),(wrap64 ((bA) - aU)),pS,H',⟨by have := aY.out;first | omega | exact Nat.le_refl _⟩,⟨by (with_reducible repeat (first | refine zQc ?_ _ | refine zQe ?_ | refine zQd ?_ _));refine zQB ?_ NB251_252.out _;(with_reducible repeat (first | refine zQc ?_ _ | refine zQe ?_ | refine zQd ?_ _));refine zQB ?_ NB251_252.out _;(with_reducible repeat (first | refine zQc ?_ _ | refine zQe ?_ | refine zQd ?_ _));exact aC.out⟩,⟨by (with_reducible repeat (first | refine zQc ?_ _ | refine zQe ?_ | refine zQd ?_ _));refine zQl (cs := #[.string (aT ++ (fF)),.int .i64 0]) ?_ 1 _ rfl;(with_reducible repeat (first | refine zQc ?_ _ | refine zQe ?_ | refine zQd ?_ _));refine zQl (cs := #[.string aT,.int .i64 0]) ?_ 0 _ rfl;(with_reducible repeat (first | refine zQc ?_ _ | refine zQe ?_ | refine zQd ?_ _));exact aD.out⟩,⟨pB⟩⟩
     ·replace dY := Bool.eq_false_iff.mpr dY;subst dY;rw [if_neg (show ¬ (false = true) by decide)] at H;have H' := am H;clear H;go_wp2;go_meet
      case rel => exact ⟨_,(aM),((⟨#[]⟩ : ByteArray)),(0),(aT),(0),pS,H',⟨by have := aY.out;first | omega | exact Nat.le_refl _⟩,⟨pK aC.out⟩,⟨pK aD.out⟩,⟨pB⟩⟩
    case rest =>
     clear HC19;(try clear c1);(try clear p1);(try clear q1);(try clear gF);(try clear c2);(try clear p2);(try clear c3);(try clear dC);(try clear dD);(try clear c4);(try clear c6);(try clear p6);(try clear c9);(try clear eF);(try clear eG);(try clear dX);(try clear bQ);(try clear bT);(try clear gG);(try clear cO);(try clear aV);(try clear bC);(try clear bI);(try clear bJ);(try clear eH);(try clear dY);(try clear cZ);(try clear aW);(try clear aX);(try clear gP);(try clear eP);(try clear dH);(try clear dI);(try clear eQ);(try clear dJ);(try clear dK);(try clear eT);(try clear dL);(try clear dM);(try clear eU);(try clear dN);(try clear dO);(try clear dP);(try clear fQ gH gI q7 q8);(try clear p1);(try clear bI);(try clear p2);(try clear q1);(try clear bJ);obtain ⟨kq,aI,aJ,aH,aA,aG,rfl,HA,bB,aC,aD,HB⟩ := hcut
     cases kq with
     | zero => exact absurd HA.out (by simp [r5_Read.j1])
     | succ jC =>
      have H := HA.out;clear HA;simp only [r5_Read.j1] at H;rcases iT H with ⟨dE,H⟩ | ⟨dE,H⟩
      ·have dQ : (aI == (a0.size : Int)) = true := beq_iff_eq.mpr dE;have dR : (aI != (a0.size : Int)) = false := bne_eq_false_iff_eq.mpr dE;clear dE;simp only [Option.some.injEq,Prod.mk.injEq] at H;obtain ⟨rfl,rfl,rfl⟩ := H;have hnb36 := NB252_251.out;have hnc36 := NB251_252.out;have gQ := cf2 aD.out;have gT := cf2 aC.out;go_wp2
       refine bodyPost_ret (zXf rfl _ _ aK 55 #[.string aA,.int .i64 aG] (0,0) _ rfl (by (with_reducible repeat (first | refine zQc ?_ _ | refine zQe ?_ | refine zQd ?_ _));refine zQl (cs := #[.string aA,.int .i64 aH]) ?_ 1 _ rfl;(with_reducible repeat (first | refine zQc ?_ _ | refine zQe ?_ | refine zQd ?_ _));refine zQl (cs := #[.string aJ,.int .i64 aH]) ?_ 0 _ rfl;(with_reducible repeat (first | refine zQc ?_ _ | refine zQe ?_ | refine zQd ?_ _));exact aC.out) Tryz.underlying55 rfl (by kernel_rfl)) rfl ?_
       exact ⟨by first | rfl | (simp [errW_none,errW_some] <;> rfl) | (simp only [← aZ];first | rfl | (simp [errW_none,errW_some] <;> rfl)) | (simp [*,errW_none,errW_some] <;> rfl),pB⟩
      ·have dQ : (aI == (a0.size : Int)) = false := beq_eq_false_iff_ne.mpr dE;have dR : (aI != (a0.size : Int)) = true := bne_iff_ne.mpr dE;have HC39 := am H;clear H;go_upto_region 14 with (fail)
       go_cut [68] (fun v68 wc => ∃ (kq : Nat) (eX : Bool),v68 = .bool eX ∧ Aside0 (r5_Read.j2 kq a0 aI eX aA aG = some (r1,r2,r3)) ∧ Aside0 (kq ≤ jC) ∧ Aside0 (wc.heap[aK]? = some (.cells #[.string aJ,.int .i64 aH] 55 (0,0))) ∧ Aside0 (wc.heap[aN]? = some (.cells #[.string aA,.int .i64 aG] 55 (0,0))) ∧ Aside0 (Below w.heap.size w wc))
       case first =>
        have H := HC39.out;clear HC39;obtain ⟨fU,H⟩ := iN H;have bW : decide (0 ≤ aI) = true := decide_eq_true fU;clear fU;(first | rw [bW] | (simp only [i64_w,i32_w];rw [bW]) | rw [dS] | (simp only [i64_w,i32_w];rw [dS]) | skip);obtain ⟨fV,H⟩ := iN H;have eY : decide (aI < (a0.size : Int)) = true := decide_eq_true fV;clear fV;rcases iT H with ⟨dF,H⟩ | ⟨dF,H⟩
        ·have dU : ((bt a0 aI) == 101) = true := beq_iff_eq.mpr dF;have dV : ((bt a0 aI) != 101) = false := bne_eq_false_iff_eq.mpr dF;clear dF;have H' := am H;clear H;have bK : 0 ≤ (aI : Int) := pD;have bL : aI < (a0.size : Int) := pD;have fG := bt_at a0 aI;replace bK := eq_true bK;replace bL := eq_true bL;go_wp2;go_meet
         case rel => exact ⟨_,(false),pS,H',⟨by have := aY.out;have := bB.out;first | omega | exact Nat.le_refl _⟩,⟨pK aC.out⟩,⟨pK aD.out⟩,⟨pB⟩⟩
        ·have dU : ((bt a0 aI) == 101) = false := beq_eq_false_iff_ne.mpr dF;have dV : ((bt a0 aI) != 101) = true := bne_iff_ne.mpr dF;have H' := am H;clear H;have bK : 0 ≤ (aI : Int) := pD;have bL : aI < (a0.size : Int) := pD;have fG := bt_at a0 aI;replace bK := eq_true bK;replace bL := eq_true bL;have dA : 0 ≤ (aI : Int) := pD;have dB : aI < (a0.size : Int) := pD;have fZ := bt_at a0 aI;replace dA := eq_true dA;replace dB := eq_true dB;go_wp2;go_meet
         case rel => exact ⟨_,(((bt a0 aI) != 69)),pS,H',⟨by have := aY.out;have := bB.out;first | omega | exact Nat.le_refl _⟩,⟨pK aC.out⟩,⟨pK aD.out⟩,⟨pB⟩⟩
       case rest =>
        clear HC39;(try clear c1);(try clear p1);(try clear q1);(try clear gF);(try clear c2);(try clear p2);(try clear c3);(try clear dC);(try clear dD);(try clear c4);(try clear p4);(try clear q4);(try clear iD);(try clear c6);(try clear p6);(try clear c9);(try clear eF);(try clear eG);(try clear dX);(try clear bQ);(try clear bT);(try clear gG);(try clear cO);(try clear aV);(try clear bC);(try clear bI);(try clear bJ);(try clear eH);(try clear dY);(try clear cZ);(try clear aW);(try clear aX);(try clear gP);(try clear eP);(try clear dH);(try clear dI);(try clear eQ);(try clear dJ);(try clear dK);(try clear eT);(try clear dL);(try clear dM);(try clear eU);(try clear dN);(try clear dO);(try clear dP);(try clear dE);(try clear dQ);(try clear dR);(try clear iE);(try clear fU);(try clear bW);(try clear dS);(try clear fV);(try clear eY);(try clear bK);(try clear bL);(try clear fG);(try clear dF);(try clear dU);(try clear dV);(try clear dA);(try clear dB);(try clear fZ);(try clear fQ gH gI gQ gT q7 q8);(try clear p1);(try clear bI);(try clear p2);(try clear bK);(try clear dA);(try clear p6);(try clear q1);(try clear bJ);(try clear bL);(try clear dB);obtain ⟨kq,eX,rfl,HA,bM,aC,aD,HB⟩ := hcut
        cases kq with
        | zero => exact absurd HA.out (by simp [r5_Read.j2])
        | succ iA =>
         have H := HA.out;clear HA;simp only [r5_Read.j2] at H;by_cases fI : eX = true
         ·subst fI;rw [if_pos rfl] at H;simp only [Option.some.injEq,Prod.mk.injEq] at H;obtain ⟨rfl,rfl,rfl⟩ := H;have hnb46 := NB252_251.out;have hnc46 := NB251_252.out;have iF := cf2 aD.out;have iG := cf2 aC.out;go_wp2
          refine bodyPost_ret (zXf rfl _ _ aK 55 #[.string aA,.int .i64 aG] (0,0) _ rfl (by (with_reducible repeat (first | refine zQc ?_ _ | refine zQe ?_ | refine zQd ?_ _));refine zQl (cs := #[.string aA,.int .i64 aH]) ?_ 1 _ rfl;(with_reducible repeat (first | refine zQc ?_ _ | refine zQe ?_ | refine zQd ?_ _));refine zQl (cs := #[.string aJ,.int .i64 aH]) ?_ 0 _ rfl;(with_reducible repeat (first | refine zQc ?_ _ | refine zQe ?_ | refine zQd ?_ _));exact aC.out) Tryz.underlying55 rfl (by kernel_rfl)) rfl ?_
          exact ⟨by first | rfl | (simp [errW_none,errW_some] <;> rfl) | (simp only [← aZ];first | rfl | (simp [errW_none,errW_some] <;> rfl)) | (simp [*,errW_none,errW_some] <;> rfl),pB⟩
         ·replace fI := Bool.eq_false_iff.mpr fI;subst fI;rw [if_neg (show ¬ (false = true) by decide)] at H;have HC49 := am H;clear H;go_upto_region 18 with (fail)
          go_cut [87] (fun v87 wc => ∃ (kq : Nat) (eZ : Bool),v87 = .bool eZ ∧ Aside0 (r5_Read.j3 kq a0 (wrap64 (aI + 1)) false eZ aA aG = some (r1,r2,r3)) ∧ Aside0 (kq ≤ iA) ∧ Aside0 (wc.heap[aK]? = some (.cells #[.string aJ,.int .i64 aH] 55 (0,0))) ∧ Aside0 (wc.heap[aN]? = some (.cells #[.string aA,.int .i64 aG] 55 (0,0))) ∧ Aside0 (Below w.heap.size w wc))
          case first =>
           have H := HC49.out;clear HC49;rcases iT H with ⟨fA,H⟩ | ⟨fA,H⟩
           ·have bE : decide ((wrap64 (aI + 1)) < (a0.size : Int)) = true := decide_eq_true fA;clear fA;(first | rw [bE] | (simp only [i64_w,i32_w];rw [bE]) | rw [bX] | (simp only [i64_w,i32_w];rw [bX]) | skip);obtain ⟨aQ,bY⟩ : ∃ j_ : Int,(wrap64 (aI + 1)) = j_ := ⟨_,rfl⟩;(replace H : (if 0 ≤ (aQ) then (if (bt a0 (aQ)) = 43 then (r5_Read.j3 iA a0 aQ false true aA aG) else (r5_Read.j3 iA a0 aQ false ((bt a0 (aQ)) == 45) aA aG)) else (none)) = some (r1,r2,r3) := by first | (rw [bY] at H;exact H) | (simp only [bY] at H ⊢;exact H));(try rw [bY] at bE);have jF : (IntKind.i64.wrap (aI + 1)) = aQ := (i64_w _).trans bY;obtain ⟨gJ,H⟩ := iN H;have fO : decide (0 ≤ (aQ)) = true := decide_eq_true gJ;clear gJ;rcases iT H with ⟨dZ,H⟩ | ⟨dZ,H⟩
            ·have fB : ((bt a0 (aQ)) == 43) = true := beq_iff_eq.mpr dZ;have fC : ((bt a0 (aQ)) != 43) = false := bne_eq_false_iff_eq.mpr dZ;clear dZ;have H' := am H;clear H;have bO : 0 ≤ ((aQ) : Int) := pD;have bP : (aQ) < (a0.size : Int) := pD;have gB := bt_at a0 (aQ);replace bO := eq_true bO;replace bP := eq_true bP;go_wp2;go_meet
             case rel => exact ⟨_,(true),pS,(by first | exact H' | (rw [bY];exact H')),⟨by have := aY.out;have := bB.out;have := bM.out;first | omega | exact Nat.le_refl _⟩,⟨pK aC.out⟩,⟨pK aD.out⟩,⟨pB⟩⟩
            ·have fB : ((bt a0 (aQ)) == 43) = false := beq_eq_false_iff_ne.mpr dZ;have fC : ((bt a0 (aQ)) != 43) = true := bne_iff_ne.mpr dZ;have H' := am H;clear H;have bO : 0 ≤ ((aQ) : Int) := pD;have bP : (aQ) < (a0.size : Int) := pD;have gB := bt_at a0 (aQ);replace bO := eq_true bO;replace bP := eq_true bP;have eB : 0 ≤ ((aQ) : Int) := pD;have eD : (aQ) < (a0.size : Int) := pD;have gL := bt_at a0 (aQ);replace eB := eq_true eB;replace eD := eq_true eD;go_wp2;go_meet
             case rel => exact ⟨_,(((bt a0 (aQ)) == 45)),(by first | rfl | (simp;done) | (simp only [← bY] <;> (first | rfl | simp)) | (simp [*];done)),(by first | exact H' | (rw [bY];exact H')),⟨by have := aY.out;have := bB.out;have := bM.out;first | omega | exact Nat.le_refl _⟩,⟨pK aC.out⟩,⟨pK aD.out⟩,⟨pB⟩⟩
           ·have bE : decide ((wrap64 (aI + 1)) < (a0.size : Int)) = false := decide_eq_false fA;clear fA;(first | rw [bE] | (simp only [i64_w,i32_w];rw [bE]) | rw [bX] | (simp only [i64_w,i32_w];rw [bX]) | skip);have H' := am H;clear H;go_wp2;go_meet
            case rel => exact ⟨_,(false),pS,H',⟨by have := aY.out;have := bB.out;have := bM.out;first | omega | exact Nat.le_refl _⟩,⟨pK aC.out⟩,⟨pK aD.out⟩,⟨pB⟩⟩
          case rest =>
           clear HC49;(try clear c1);(try clear p1);(try clear q1);(try clear gF);(try clear c2);(try clear p2);(try clear c3);(try clear dC);(try clear dD);(try clear c4);(try clear p4);(try clear q4);(try clear iD);(try clear c5);(try clear p5);(try clear q5);(try clear iK);(try clear c6);(try clear p6);(try clear c9);(try clear eF);(try clear eG);(try clear dX);(try clear bQ);(try clear bT);(try clear gG);(try clear cO);(try clear aV);(try clear bC);(try clear bI);(try clear bJ);(try clear eH);(try clear dY);(try clear cZ);(try clear aW);(try clear aX);(try clear gP);(try clear eP);(try clear dH);(try clear dI);(try clear eQ);(try clear dJ);(try clear dK);(try clear eT);(try clear dL);(try clear dM);(try clear eU);(try clear dN);(try clear dO);(try clear dP);(try clear dE);(try clear dQ);(try clear dR);(try clear iE);(try clear fU);(try clear bW);(try clear dS);(try clear fV);(try clear eY);(try clear bK);(try clear bL);(try clear fG);(try clear dF);(try clear dU);(try clear dV);(try clear dA);(try clear dB);(try clear fZ);(try clear fI);(try clear iL);(try clear fA);(try clear bE);(try clear bX);(try clear gJ);(try clear fO);(try clear bO);(try clear bP);(try clear gB);(try clear dZ);(try clear fB);(try clear fC);(try clear eB);(try clear eD);(try clear gL);(try clear fQ gH gI gQ gT iF iG q7 q8);(try clear p1);(try clear bI);(try clear p2);(try clear p4);(try clear bK);(try clear dA);(try clear bO);(try clear eB);(try clear p6);(try clear q1);(try clear bJ);(try clear q4);(try clear bL);(try clear dB);(try clear bP);(try clear eD);obtain ⟨kq,eZ,rfl,HA,dG,aC,aD,HB⟩ := hcut
           cases kq with
           | zero => exact absurd HA.out (by simp [r5_Read.j3])
           | succ iM =>
            have H := HA.out;clear HA;simp only [r5_Read.j3] at H;have HC56 := am H;clear H
            go_upto_if 87 with (fail)
            go_cut [5,7] (fun v5 v7 wc => ∃ (kq : Nat) (bF : Int) (bZ : Bool),v5 = .int .i64 bF ∧ v7 = .bool bZ ∧ Aside0 (r5_Read.j4 kq a0 bF bZ aA aG = some (r1,r2,r3)) ∧ Aside0 (kq ≤ iM) ∧ Aside0 (wc.heap[aK]? = some (.cells #[.string aJ,.int .i64 aH] 55 (0,0))) ∧ Aside0 (wc.heap[aN]? = some (.cells #[.string aA,.int .i64 aG] 55 (0,0))) ∧ Aside0 (Below w.heap.size w wc))
            case first =>
             have H := HC56.out;clear HC56;by_cases gD : eZ = true
             ·subst gD;rw [if_pos rfl] at H;obtain ⟨bG,fD⟩ : ∃ j_ : Int,(wrap64 (aI + 1)) = j_ := ⟨_,rfl⟩;(replace H : (if 0 ≤ (bG) then (if (bG) < (a0.size : Int) then (r5_Read.j4 iM a0 (wrap64 ((bG) + 1)) ((bt a0 (bG)) == 45) aA aG) else (none)) else (none)) = some (r1,r2,r3) := by first | (rw [fD] at H;exact H) | (simp only [fD] at H ⊢;exact H));have jG : (IntKind.i64.wrap (aI + 1)) = bG := (i64_w _).trans fD;obtain ⟨gU,H⟩ := iN H;have fE : decide (0 ≤ (bG)) = true := decide_eq_true gU;clear gU;(first | rw [fE] | (simp only [i64_w,i32_w];rw [fE]) | rw [fP] | (simp only [i64_w,i32_w];rw [fP]) | skip);obtain ⟨gV,H⟩ := iN H;have gM : decide ((bG) < (a0.size : Int)) = true := decide_eq_true gV;clear gV;have H' := am H;clear H;have fJ : 0 ≤ ((bG) : Int) := pD;have fK : (bG) < (a0.size : Int) := pD;have iB := bt_at a0 (bG);replace fJ := eq_true fJ;replace fK := eq_true fK;go_wp2;go_meet
              case rel => exact ⟨_,(wrap64 ((bG) + 1)),(((bt a0 (bG)) == 45)),(by first | rfl | (simp;done) | (simp only [← fD] <;> (first | rfl | simp)) | (simp [*];done)),(by first | rfl | (simp;done) | (simp only [← fD] <;> (first | rfl | simp)) | (simp [*];done)),H',⟨by have := aY.out;have := bB.out;have := bM.out;have := dG.out;first | omega | exact Nat.le_refl _⟩,⟨pK aC.out⟩,⟨pK aD.out⟩,⟨pB⟩⟩
             ·replace gD := Bool.eq_false_iff.mpr gD;subst gD;rw [if_neg (show ¬ (false = true) by decide)] at H;have H' := am H;clear H;go_wp2;go_meet
              case rel => exact ⟨_,((wrap64 (aI + 1))),(false),pS,pS,H',⟨by have := aY.out;have := bB.out;have := bM.out;have := dG.out;first | omega | exact Nat.le_refl _⟩,⟨pK aC.out⟩,⟨pK aD.out⟩,⟨pB⟩⟩
            case rest =>
             clear HC56;(try clear c1);(try clear p1);(try clear q1);(try clear gF);(try clear c2);(try clear p2);(try clear c3);(try clear dC);(try clear dD);(try clear c4);(try clear p4);(try clear q4);(try clear iD);(try clear c5);(try clear p5);(try clear q5);(try clear iK);(try clear c6);(try clear p6);(try clear q6);(try clear iX);(try clear c9);(try clear eF);(try clear eG);(try clear dX);(try clear bQ);(try clear bT);(try clear gG);(try clear cO);(try clear aV);(try clear bC);(try clear bI);(try clear bJ);(try clear eH);(try clear dY);(try clear cZ);(try clear aW);(try clear aX);(try clear gP);(try clear eP);(try clear dH);(try clear dI);(try clear eQ);(try clear dJ);(try clear dK);(try clear eT);(try clear dL);(try clear dM);(try clear eU);(try clear dN);(try clear dO);(try clear dP);(try clear dE);(try clear dQ);(try clear dR);(try clear iE);(try clear fU);(try clear bW);(try clear dS);(try clear fV);(try clear eY);(try clear bK);(try clear bL);(try clear fG);(try clear dF);(try clear dU);(try clear dV);(try clear dA);(try clear dB);(try clear fZ);(try clear fI);(try clear iL);(try clear fA);(try clear bE);(try clear bX);(try clear gJ);(try clear fO);(try clear bO);(try clear bP);(try clear gB);(try clear dZ);(try clear fB);(try clear fC);(try clear eB);(try clear eD);(try clear gL);(try clear gD);(try clear gU);(try clear fE);(try clear fP);(try clear gV);(try clear gM);(try clear fJ);(try clear fK);(try clear iB);(try clear fQ gH gI gQ gT iF iG q7 q8);(try clear p1);(try clear bI);(try clear p2);(try clear p4);(try clear bK);(try clear dA);(try clear p5);(try clear bO);(try clear eB);(try clear p6);(try clear fJ);(try clear q1);(try clear bJ);(try clear q4);(try clear bL);(try clear dB);(try clear q5);(try clear bP);(try clear eD);(try clear fK);obtain ⟨kq,bF,bZ,rfl,rfl,HA,fH,aC,aD,HB⟩ := hcut
             cases kq with
             | zero => exact absurd HA.out (by simp [r5_Read.j4])
             | succ iO =>
              have H := HA.out;clear HA;simp only [r5_Read.j4] at H;have HC62 := am H;clear H;go_upto_region 21 with (fail)
              go_cut [105] (fun jD wc => ∃ (kq : Nat) (dW : Bool),jD = .bool dW ∧ Aside0 (r5_Read.j5 kq a0 bF bZ dW aA aG = some (r1,r2,r3)) ∧ Aside0 (kq ≤ iO) ∧ Aside0 (wc.heap[aK]? = some (.cells #[.string aJ,.int .i64 aH] 55 (0,0))) ∧ Aside0 (wc.heap[aN]? = some (.cells #[.string aA,.int .i64 aG] 55 (0,0))) ∧ Aside0 (Below w.heap.size w wc))
              case first =>
               have H := HC62.out;clear HC62;rcases iT H with ⟨fM,H⟩ | ⟨fM,H⟩
               ·have cB : (bF == (a0.size : Int)) = true := beq_iff_eq.mpr fM;have cK : (bF != (a0.size : Int)) = false := bne_eq_false_iff_eq.mpr fM;clear fM;(first | rw [cB] | (simp only [i64_w,i32_w];rw [cB]) | rw [cK] | (simp only [i64_w,i32_w];rw [cK]) | skip);have H' := am H;clear H;go_wp2;go_meet
                case rel => exact ⟨_,(true),pS,H',⟨by have := aY.out;have := bB.out;have := bM.out;have := dG.out;have := fH.out;first | omega | exact Nat.le_refl _⟩,⟨pK aC.out⟩,⟨pK aD.out⟩,⟨pB⟩⟩
               ·have cB : (bF == (a0.size : Int)) = false := beq_eq_false_iff_ne.mpr fM;have cK : (bF != (a0.size : Int)) = true := bne_iff_ne.mpr fM;(first | rw [cB] | (simp only [i64_w,i32_w];rw [cB]) | rw [cK] | (simp only [i64_w,i32_w];rw [cK]) | skip);obtain ⟨iP,jH,H⟩ := oB H;(try dsimp only at H);have H' := am H;clear H;(go_wp2_with (first | (go_at_call 60;(with_reducible refine (r5_digits.calls iO a0 bF iP _ jH.out).mono ?_);rintro e w' ⟨rfl,⟨nd,rfl⟩⟩)));go_meet
                case rel => exact ⟨_,((iP != (a0.size : Int))),pS,H',⟨by have := aY.out;have := bB.out;have := bM.out;have := dG.out;have := fH.out;first | omega | exact Nat.le_refl _⟩,⟨pK aC.out⟩,⟨pK aD.out⟩,⟨pB⟩⟩
              case rest =>
               clear HC62;(try clear c1);(try clear p1);(try clear q1);(try clear gF);(try clear c2);(try clear p2);(try clear c3);(try clear dC);(try clear dD);(try clear c4);(try clear p4);(try clear q4);(try clear iD);(try clear c5);(try clear p5);(try clear q5);(try clear iK);(try clear c6);(try clear p6);(try clear q6);(try clear iX);(try clear c9);(try clear eF);(try clear eG);(try clear dX);(try clear bQ);(try clear bT);(try clear gG);(try clear cO);(try clear aV);(try clear bC);(try clear bI);(try clear bJ);(try clear eH);(try clear dY);(try clear cZ);(try clear aW);(try clear aX);(try clear gP);(try clear eP);(try clear dH);(try clear dI);(try clear eQ);(try clear dJ);(try clear dK);(try clear eT);(try clear dL);(try clear dM);(try clear eU);(try clear dN);(try clear dO);(try clear dP);(try clear dE);(try clear dQ);(try clear dR);(try clear iE);(try clear fU);(try clear bW);(try clear dS);(try clear fV);(try clear eY);(try clear bK);(try clear bL);(try clear fG);(try clear dF);(try clear dU);(try clear dV);(try clear dA);(try clear dB);(try clear fZ);(try clear fI);(try clear iL);(try clear fA);(try clear bE);(try clear bX);(try clear gJ);(try clear fO);(try clear bO);(try clear bP);(try clear gB);(try clear dZ);(try clear fB);(try clear fC);(try clear eB);(try clear eD);(try clear gL);(try clear gD);(try clear gU);(try clear fE);(try clear fP);(try clear gV);(try clear gM);(try clear fJ);(try clear fK);(try clear iB);(try clear fM);(try clear cB);(try clear cK);(try clear iY);(try clear fQ gH gI gQ gT iF iG q7 q8);(try clear p1);(try clear bI);(try clear p2);(try clear p4);(try clear bK);(try clear dA);(try clear p5);(try clear bO);(try clear eB);(try clear p6);(try clear fJ);(try clear q1);(try clear bJ);(try clear q4);(try clear bL);(try clear dB);(try clear q5);(try clear bP);(try clear eD);(try clear q6);(try clear fK);obtain ⟨kq,dW,rfl,HA,gN,aC,aD,HB⟩ := hcut
               cases kq with
               | zero => exact absurd HA.out (by simp [r5_Read.j5])
               | succ iQ =>
                have H := HA.out;clear HA;simp only [r5_Read.j5] at H;by_cases gW : dW = true
                ·subst gW;rw [if_pos rfl] at H;simp only [Option.some.injEq,Prod.mk.injEq] at H;obtain ⟨rfl,rfl,rfl⟩ := H;have hnb66 := NB252_251.out;have hnc66 := NB251_252.out;have jI := cf2 aD.out;have jJ := cf2 aC.out;go_wp2
                 refine bodyPost_ret (zXf rfl _ _ aK 55 #[.string aA,.int .i64 aG] (0,0) _ rfl (by (with_reducible repeat (first | refine zQc ?_ _ | refine zQe ?_ | refine zQd ?_ _));refine zQl (cs := #[.string aA,.int .i64 aH]) ?_ 1 _ rfl;(with_reducible repeat (first | refine zQc ?_ _ | refine zQe ?_ | refine zQd ?_ _));refine zQl (cs := #[.string aJ,.int .i64 aH]) ?_ 0 _ rfl;(with_reducible repeat (first | refine zQc ?_ _ | refine zQe ?_ | refine zQd ?_ _));exact aC.out) Tryz.underlying55 rfl (by kernel_rfl)) rfl ?_
                 exact ⟨by first | rfl | (simp [errW_none,errW_some] <;> rfl) | (simp only [← aZ];first | rfl | (simp [errW_none,errW_some] <;> rfl)) | (simp [*,errW_none,errW_some] <;> rfl),pB⟩
                ·replace gW := Bool.eq_false_iff.mpr gW;subst gW;rw [if_neg (show ¬ (false = true) by decide)] at H;have H' := am H;clear H;go_wp2
                 go_loopg [8,9] iQ (fun kq v8 v9 w' => ∃ (bN : Int) (bH : Int),v8 = .int .i64 bN ∧ v9 = .int .i64 bH ∧ Aside0 (r5_Read.l0 kq a0 bZ bN bH aA aG = some (r1,r2,r3)) ∧ Aside0 (kq ≤ iQ) ∧ Aside0 (w'.heap[aK]? = some (.cells #[.string aJ,.int .i64 aH] 55 (0,0))) ∧ Aside0 (w'.heap[aN]? = some (.cells #[.string aA,.int .i64 aG] 55 (0,0))) ∧ Aside0 (Below w.heap.size w w'))
                 case atStart => exact ⟨(0),(bF),pS,pS,H',⟨Nat.le_refl _⟩,⟨pK aC.out⟩,⟨pK aD.out⟩,⟨pB⟩⟩
                 case round =>
                  clear H';(try clear c1);(try clear p1);(try clear q1);(try clear gF);(try clear c2);(try clear p2);(try clear c3);(try clear dC);(try clear dD);(try clear c4);(try clear p4);(try clear q4);(try clear iD);(try clear c5);(try clear p5);(try clear q5);(try clear iK);(try clear c6);(try clear p6);(try clear q6);(try clear iX);(try clear c9);(try clear eF);(try clear eG);(try clear dX);(try clear bQ);(try clear bT);(try clear gG);(try clear cO);(try clear aV);(try clear bC);(try clear bI);(try clear bJ);(try clear eH);(try clear dY);(try clear cZ);(try clear aW);(try clear aX);(try clear gP);(try clear eP);(try clear dH);(try clear dI);(try clear eQ);(try clear dJ);(try clear dK);(try clear eT);(try clear dL);(try clear dM);(try clear eU);(try clear dN);(try clear dO);(try clear dP);(try clear dE);(try clear dQ);(try clear dR);(try clear iE);(try clear fU);(try clear bW);(try clear dS);(try clear fV);(try clear eY);(try clear bK);(try clear bL);(try clear fG);(try clear dF);(try clear dU);(try clear dV);(try clear dA);(try clear dB);(try clear fZ);(try clear fI);(try clear iL);(try clear fA);(try clear bE);(try clear bX);(try clear gJ);(try clear fO);(try clear bO);(try clear bP);(try clear gB);(try clear dZ);(try clear fB);(try clear fC);(try clear eB);(try clear eD);(try clear gL);(try clear gD);(try clear gU);(try clear fE);(try clear fP);(try clear gV);(try clear gM);(try clear fJ);(try clear fK);(try clear iB);(try clear fM);(try clear cB);(try clear cK);(try clear iY);(try clear gW);(try clear jO);(try clear fQ gH gI gQ gT iF iG jI jJ q7 q8);(try clear p1);(try clear bI);(try clear p2);(try clear p4);(try clear bK);(try clear dA);(try clear p5);(try clear bO);(try clear eB);(try clear p6);(try clear fJ);(try clear iY);(try clear q1);(try clear bJ);(try clear q4);(try clear bL);(try clear dB);(try clear q5);(try clear bP);(try clear eD);(try clear q6);(try clear fK);obtain ⟨bN,bH,rfl,rfl,HA,iH,aC,aD,HB⟩ := hrel
                  cases gk with
                  | zero => exact absurd HA.out (by simp [r5_Read.l0])
                  | succ k7 =>
                   have H := HA.out;clear HA;simp only [r5_Read.l0] at H;rcases iT H with ⟨gX,H⟩ | ⟨gX,H⟩
                   ·have iR : decide (bH < (a0.size : Int)) = true := decide_eq_true gX;clear gX;rcases iT H with ⟨gY,H⟩ | ⟨gY,H⟩
                    ·have iU : decide (bN < 9999) = true := decide_eq_true gY;clear gY;obtain ⟨iZ,H⟩ := iN H;have jK : decide (0 ≤ bH) = true := decide_eq_true iZ;clear iZ;have H' := am H;clear H;have jA : 0 ≤ (bH : Int) := pD;have jB : bH < (a0.size : Int) := pD;have jL := bt_at a0 bH;replace jA := eq_true jA;replace jB := eq_true jB;go_wp2
                     go_roundg k7
                     case measure => have := aY.out;have := bB.out;have := bM.out;have := dG.out;have := fH.out;have := gN.out;have := iH.out;omega
                     case rel => exact ⟨(wrap64 ((wrap64 (10 * bN)) + (((bt a0 bH) - 48) % 256))),(wrap64 (bH + 1)),pS,pS,H',⟨by have := aY.out;have := bB.out;have := bM.out;have := dG.out;have := fH.out;have := gN.out;have := iH.out;omega⟩,⟨pK aC.out⟩,⟨pK aD.out⟩,⟨pB⟩⟩
                    ·have iU : decide (bN < 9999) = false := decide_eq_false gY;clear gY;have H' := am H;clear H;go_wp2
                     go_roundg k7
                     case measure => have := aY.out;have := bB.out;have := bM.out;have := dG.out;have := fH.out;have := gN.out;have := iH.out;omega
                     case rel => exact ⟨(bN),(wrap64 (bH + 1)),pS,pS,H',⟨by have := aY.out;have := bB.out;have := bM.out;have := dG.out;have := fH.out;have := gN.out;have := iH.out;omega⟩,⟨pK aC.out⟩,⟨pK aD.out⟩,⟨pB⟩⟩
                   ·have iR : decide (bH < (a0.size : Int)) = false := decide_eq_false gX;clear gX;rcases iT H with ⟨gZ,H⟩ | ⟨gZ,H⟩
                    ·have iV : decide (9999 < bN) = true := decide_eq_true gZ;clear gZ;by_cases iI : bZ = true
                     ·subst iI;rw [if_pos rfl] at H;simp only [Option.some.injEq,Prod.mk.injEq] at H;obtain ⟨rfl,rfl,rfl⟩ := H;have hnb75 := NB252_251.out;have hnc75 := NB251_252.out;have jP := cf2 aD.out;have jQ := cf2 aC.out;go_wp2
                      refine bodyPost_ret (zXf rfl _ _ aK 55 #[.string aA,.int .i64 (wrap64 (aG + (-9999)))] (0,0) _ rfl (by (with_reducible repeat (first | refine zQc ?_ _ | refine zQe ?_ | refine zQd ?_ _));refine zQl (cs := #[.string aA,.int .i64 aH]) ?_ 1 _ rfl;(with_reducible repeat (first | refine zQc ?_ _ | refine zQe ?_ | refine zQd ?_ _));refine zQl (cs := #[.string aJ,.int .i64 aH]) ?_ 0 _ rfl;(with_reducible repeat (first | refine zQc ?_ _ | refine zQe ?_ | refine zQd ?_ _));refine zQB ?_ NB251_252.out _;(with_reducible repeat (first | refine zQc ?_ _ | refine zQe ?_ | refine zQd ?_ _));exact aC.out) Tryz.underlying55 rfl (by kernel_rfl)) rfl ?_
                      exact ⟨by first | rfl | (simp [errW_none,errW_some] <;> rfl) | (simp only [← aZ];first | rfl | (simp [errW_none,errW_some] <;> rfl)) | (simp [*,errW_none,errW_some] <;> rfl),pB⟩
                     ·replace iI := Bool.eq_false_iff.mpr iI;subst iI;rw [if_neg (show ¬ (false = true) by decide)] at H;simp only [Option.some.injEq,Prod.mk.injEq] at H;obtain ⟨rfl,rfl,rfl⟩ := H;have hnb78 := NB252_251.out;have hnc78 := NB251_252.out;have jR := cf2 aD.out;have jS := cf2 aC.out;go_wp2
                      refine bodyPost_ret (zXf rfl _ _ aK 55 #[.string aA,.int .i64 (wrap64 (aG + 9999))] (0,0) _ rfl (by (with_reducible repeat (first | refine zQc ?_ _ | refine zQe ?_ | refine zQd ?_ _));refine zQl (cs := #[.string aA,.int .i64 aH]) ?_ 1 _ rfl;(with_reducible repeat (first | refine zQc ?_ _ | refine zQe ?_ | refine zQd ?_ _));refine zQl (cs := #[.string aJ,.int .i64 aH]) ?_ 0 _ rfl;(with_reducible repeat (first | refine zQc ?_ _ | refine zQe ?_ | refine zQd ?_ _));refine zQB ?_ NB251_252.out _;(with_reducible repeat (first | refine zQc ?_ _ | refine zQe ?_ | refine zQd ?_ _));exact aC.out) Tryz.underlying55 rfl (by kernel_rfl)) rfl ?_
                      exact ⟨by first | rfl | (simp [errW_none,errW_some] <;> rfl) | (simp only [← aZ];first | rfl | (simp [errW_none,errW_some] <;> rfl)) | (simp [*,errW_none,errW_some] <;> rfl),pB⟩
                    ·have iV : decide (9999 < bN) = false := decide_eq_false gZ;clear gZ;by_cases iJ : bZ = true
                     ·subst iJ;rw [if_pos rfl] at H;simp only [Option.some.injEq,Prod.mk.injEq] at H;obtain ⟨rfl,rfl,rfl⟩ := H;have hnb82 := NB252_251.out;have hnc82 := NB251_252.out;have jT := cf2 aD.out;have jU := cf2 aC.out;go_wp2
                      refine bodyPost_ret (zXf rfl _ _ aK 55 #[.string aA,.int .i64 (wrap64 (aG + (wrap64 (-bN))))] (0,0) _ rfl (by (with_reducible repeat (first | refine zQc ?_ _ | refine zQe ?_ | refine zQd ?_ _));refine zQl (cs := #[.string aA,.int .i64 aH]) ?_ 1 _ rfl;(with_reducible repeat (first | refine zQc ?_ _ | refine zQe ?_ | refine zQd ?_ _));refine zQl (cs := #[.string aJ,.int .i64 aH]) ?_ 0 _ rfl;(with_reducible repeat (first | refine zQc ?_ _ | refine zQe ?_ | refine zQd ?_ _));refine zQB ?_ NB251_252.out _;(with_reducible repeat (first | refine zQc ?_ _ | refine zQe ?_ | refine zQd ?_ _));exact aC.out) Tryz.underlying55 rfl (by kernel_rfl)) rfl ?_
                      exact ⟨by first | rfl | (simp [errW_none,errW_some] <;> rfl) | (simp only [← aZ];first | rfl | (simp [errW_none,errW_some] <;> rfl)) | (simp [*,errW_none,errW_some] <;> rfl),pB⟩
                     ·replace iJ := Bool.eq_false_iff.mpr iJ;subst iJ;rw [if_neg (show ¬ (false = true) by decide)] at H;simp only [Option.some.injEq,Prod.mk.injEq] at H;obtain ⟨rfl,rfl,rfl⟩ := H;have hnb85 := NB252_251.out;have hnc85 := NB251_252.out;have jV := cf2 aD.out;have jW := cf2 aC.out;go_wp2
                      refine bodyPost_ret (zXf rfl _ _ aK 55 #[.string aA,.int .i64 (wrap64 (aG + bN))] (0,0) _ rfl (by (with_reducible repeat (first | refine zQc ?_ _ | refine zQe ?_ | refine zQd ?_ _));refine zQl (cs := #[.string aA,.int .i64 aH]) ?_ 1 _ rfl;(with_reducible repeat (first | refine zQc ?_ _ | refine zQe ?_ | refine zQd ?_ _));refine zQl (cs := #[.string aJ,.int .i64 aH]) ?_ 0 _ rfl;(with_reducible repeat (first | refine zQc ?_ _ | refine zQe ?_ | refine zQd ?_ _));refine zQB ?_ NB251_252.out _;(with_reducible repeat (first | refine zQc ?_ _ | refine zQe ?_ | refine zQd ?_ _));exact aC.out) Tryz.underlying55 rfl (by kernel_rfl)) rfl ?_
                      exact ⟨by first | rfl | (simp [errW_none,errW_some] <;> rfl) | (simp only [← aZ];first | rfl | (simp [errW_none,errW_some] <;> rfl)) | (simp [*,errW_none,errW_some] <;> rfl),pB⟩
end Go.Proofs.YtongfmeediokmaaGreatDoor.Pr
end
