/- A part of the proof of the law that RowValueNumbers shows: lemmas, and contracts of the calls that it reaches. -/
import Derived.Test.YtongfmeediokmaaGreatDoorProg
import Derived.Below
import Derived.Deep.Draws
import Derived.Deep.AppendLies
import Derived.Maps.AppendAt
import Derived.OwnWalk
import Derived.Laws.BytesArg
import Derived.Laws.MakeOwn
import Derived.Laws.OwnMore
import Derived.Deep.OwnRows
import Derived.Tactics
import Derived.Lib.ConvBytes
import Derived.Laws.Slices
import Derived.WalkKit
import Derived.KernelRfl
import Derived.RowKit3
import Derived.Deep.LoopGhost
import Derived.Deep.QuietTactic
import Derived.BigQuiet
import Derived.WideLaws
import Derived.Deep.DeepCutAuto
import Derived.Deep.CutBlock
import Derived.Deep.RegionHeld3
import Derived.Laws.Rows
import Derived.Lib.AppendStr
import Derived.ArgAppend
import Derived.Laws.IdiomCopy
import Derived.OrdersHeld
import Derived.Laws.BitsLemmas
import Derived.RowKit
import Derived.Test.YtongfmeediokmaaGreatDoorZVN0
import Derived.Test.YtongfmeediokmaaGreatDoorZVN1
import Derived.Test.YtongfmeediokmaaGreatDoorZVN2
import Derived.Test.YtongfmeediokmaaGreatDoorZVN4
import Derived.Test.YtongfmeediokmaaGreatDoorZVN5
set_option linter.unusedVariables false
set_option linter.unusedSimpArgs false
section
namespace Go.Proofs.YtongfmeediokmaaGreatDoor.Pr
open Go.RowKit Go.Proofs.YtongfmeediokmaaGreatDoorW.PrintWords Go.Proofs.YtongfmeediokmaaGreatDoorW.PrintLast Go.Proofs.YtongfmeediokmaaGreatDoorW.PrintMore Go.Proofs.YtongfmeediokmaaGreatDoor.Pv
attribute [local go_sem] zXc zXa zXm zXl zQO zQN zXb zQZ
attribute [local go_sem high] eqA25
def w8_ValueNumbers.j0 : Nat → Int → Bool → Option (Bool)
 | 0,_,_ => none
 | k + 1,x1,x51 => if x51 = true then (none) else ((r1_Kind.f k x1).bind fun t708 => (if t708 ≥ 3 then ((w8_lives.f k).bind fun t709 => (some t709)) else ((value_Num.f x1).bind fun bt710 => ((value_Show.f k bt710.1 bt710.2.1 bt710.2.2.1 bt710.2.2.2).bind fun t714 => ((value_Text.f t714).bind fun bt715 => ((value_ToNum.f k bt715.1 bt715.2.1 bt715.2.2.1 bt715.2.2.2).bind fun bt719 => (if bt719.1 = x1 then (if bt719.2 = true then ((w8_lives.f k).bind fun t721 => (some t721)) else (none)) else (none))))))))
def w8_ValueNumbers.f (k : Nat) (a0_0 : Int) (a0_1 : Int) (a0_2 : ByteArray) (a0_3 : Int) (a1 : Int) : Option (Bool) := (value_ToNum.f k a0_0 a0_1 a0_2 a0_3).bind fun bt680 => ((r8_ToNum.f k a0_0 a0_1 a0_2 a0_3).bind fun bt682 => (if bt680.1 = bt682.1 then (if (bt680.2 != bt682.2) = true then (w8_ValueNumbers.j0 k a1 true) else ((value_Num.f a1).bind fun bt684 => ((r8_Num.f k a1).bind fun bt688 => (if (!(bt684.1 == bt688.1) || (!(bt684.2.1 == bt688.2.1) || (!(bt684.2.2.1.toList == bt688.2.2.1.toList) || (!(bt684.2.2.2 == bt688.2.2.2))))) = true then (w8_ValueNumbers.j0 k a1 true) else ((value_Text.f a0_2).bind fun bt692 => ((r8_Text.f a0_2).bind fun bt696 => (if (!(bt692.1 == bt696.1) || (!(bt692.2.1 == bt696.2.1) || (!(bt692.2.2.1.toList == bt696.2.2.1.toList) || (!(bt692.2.2.2 == bt696.2.2.2))))) = true then (w8_ValueNumbers.j0 k a1 true) else ((value_Bool.f bt680.2).bind fun bt700 => ((r8_Bool.f bt680.2).bind fun bt704 => (w8_ValueNumbers.j0 k a1 (!(bt700.1 == bt704.1) || (!(bt700.2.1 == bt704.2.1) || (!(bt700.2.2.1.toList == bt704.2.2.1.toList) || (!(bt700.2.2.2 == bt704.2.2.2))))))))))))))) else (w8_ValueNumbers.j0 k a1 true)))
def w8_ValueNumbers.T3 : Bool × List (List Nat × List Nat) := (true,[([],[]),([],[]),([0,1],[0,1]),([2],[2]),([3],[3]),([3],[3]),([4,5,3],[3,4,5]),([3,6],[3,6]),([7,3],[7]),([8],[8]),([9,8,8],[8,9]),([8],[8]),([11,10,8],[8,11]),([10,12,8],[8,10,12]),([8,13],[8,13]),([14,12],[14]),([15],[15]),([16,15],[15,16]),([17,15,15],[15,17]),([15],[15]),([19,15],[15,19]),([20,18,15],[15,20]),([18,21,15],[15,18,21]),([15,22],[15,22]),([23,21],[23]),([24],[24]),([25,24,24],[24,25]),([24],[24]),([27,26,24],[24,27]),([26,28,24],[24,26,28]),([24,29],[24,29])])
def w8_ValueNumbers.B3 : List Nat := [0,0,3,7,15,15,63,127,255,511,1023,511,4095,8191,16383,32767,65535,131071,262143,65535,589823,2097151,4194303,8388607,16777215,33554431,67108863,33554431,268435455,536870911,1073741823]
theorem w8_ValueNumbers.tab3 : rtab .any (opsOf Tryz.f3 3) = w8_ValueNumbers.T3 := by kernel_rfl
theorem w8_ValueNumbers.bits3 : zXK w8_ValueNumbers.T3.2 w8_ValueNumbers.B3 = true := by kernel_rfl
set_option maxHeartbeats 8000000 in
set_option maxRecDepth 100000 in
theorem w8_ValueNumbers.calls (k : Nat) (a0_0 : Int) (a0_1 : Int) (a0_2 : ByteArray) (a0_3 : Int) (a1 : Int) (r : Bool) (w : World) (hG : zXL w) (h : w8_ValueNumbers.f k a0_0 a0_1 a0_2 a0_3 a1 = some r) :
  Calls Tryz.prog 3 #[.agg #[.int .i64 a0_0,.int .u64 a0_1,.string a0_2,.int .i64 a0_3],.int .u64 a1] w fun e w' => e = .returned (.bool r) ∧ Below w.heap.size w w' := by
 have hu25 := Tryz.underlying25;have HG := am hG;clear hG;have HB := am (Below.refl w.heap.size w);have H := h;unfold w8_ValueNumbers.f at H;clear h;obtain ⟨⟨aM,aD⟩,A3,H⟩ := oB H;(try dsimp only at H);obtain ⟨⟨aN,aG⟩,A4,H⟩ := oB H;(try dsimp only at H);have HC5 := am H;clear H;go_enter Tryz.func3,Tryz.ntmps3;(go_upto_region 3 with (first | ((with_reducible refine zQq (N := 2) rfl ?_);refine zQy ?hg (N := 2) ?hd (cs := #[.int .i64 a0_0,.int .u64 a0_1,.string a0_2,.int .i64 a0_3]) (t := 25) ?hr ?_;(case hd => rfl);(case hg => rfl);(case hr => first | (go_simp;done) | (go_simp;rfl));intro aC hg w6 hbox hb;have aA := am (hbox);have GW679 := am ((by rw [hg];exact (zQa pB) : w.heap.size ≤ aC));have GE679 := am ((by rw [hg];exact (zQa pB) : w.heap.size ≤ aC));replace HB := bS hb;clear hb hbox hg;have q7 := cf4 aA.out) | ((with_reducible refine zQb (f := 5) rfl ?_);refine zQh (some 13) rfl rfl Tryz.func5 (by kernel_rfl) rfl #[.agg #[.int .i64 a0_0,.int .u64 a0_1,.string a0_2,.int .i64 a0_3]] rfl pM ?_;(with_reducible refine (value_ToNum.calls k a0_0 a0_1 a0_2 a0_3 aM aD _ A3.out).mono ?_);rintro e w8 ⟨rfl,hb⟩;refine ⟨_,rfl,?_⟩;replace aA := am (pkb aA.out hb);replace HB := bS hb;(try clear hb);have q9 := cf4 aA.out) | ((with_reducible refine zQb (f := 6) rfl ?_);refine zQh (some 18) rfl rfl Tryz.func6 (by kernel_rfl) rfl #[.agg #[.int .i64 a0_0,.int .u64 a0_1,.string a0_2,.int .i64 a0_3]] rfl pM ?_;(with_reducible refine (r8_ToNum.calls k a0_0 a0_1 a0_2 a0_3 aN aG _ A4.out).mono ?_);rintro e bN ⟨rfl,hb⟩;refine ⟨_,rfl,?_⟩;replace aA := am (pkb aA.out hb);replace HB := bS hb;(try clear hb))));(try simp only [Act.put,List.setIfInBounds_toArray,List.set_cons_zero,List.set_cons_succ])
 go_cut [51] (fun v51 wc => ∃ (kq : Nat) (aK : Bool),v51 = .bool aK ∧ Aside0 (w8_ValueNumbers.j0 kq a1 aK = some r) ∧ Aside0 (kq ≤ k) ∧ Aside0 (wc.heap[aC]? = some (.cells #[.int .i64 a0_0,.int .u64 a0_1,.string a0_2,.int .i64 a0_3] 25 (0,0))) ∧ Aside0 (Below w.heap.size w wc))
 case first =>
  have H := HC5.out;clear HC5;rcases iT H with ⟨aQ,H⟩ | ⟨aQ,H⟩
  ·have aI : (aM == aN) = true := beq_iff_eq.mpr aQ;have aJ : (aM != aN) = false := bne_eq_false_iff_eq.mpr aQ;clear aQ;(first | rw [aI] | (simp only [i64_w,i32_w];rw [aI]) | rw [aJ] | (simp only [i64_w,i32_w];rw [aJ]) | skip);rcases iT H with ⟨aH,H⟩ | ⟨aH,H⟩
   ·have dN : (aD != aG) = true := aH;(try (have dO : decide (aD = aG) = false := by simpa using aH));(try (have dP : (aD == aG) = false := by simpa using aH));(try (have eQ : ¬ (aD = aG) := by simpa using aH));clear aH;have H' := am H;clear H;(try go_wp2);replace aA := am (zQe aA.out);replace HB := am (zQC HB.out);refine zXS (n := 31) (S := fun w' => True) (ds := []) (bm 31 0) (by kernel_rfl) rfl rfl trivial (fun hHeld => ?_);refine zXj w8_ValueNumbers.tab3 w8_ValueNumbers.bits3 (fun HT_ HW_ => ?_);generalize bN.drew = eX at aA HB hHeld ⊢
    refine puA 0 (some 21) ?_ (bm 31 1) rfl rfl HT_.out (Or.inl ⟨by kernel_rfl,?_⟩) ?_ ?_ ?_
    rotate_left;(intro w';go_simp;with_reducible rfl);rotate_left;exact pA
    refine puA 1 (some 22) ?_ (bm 31 3) rfl rfl HT_.out (Or.inl ⟨by kernel_rfl,?_⟩) ?_ ?_ ?_
    rotate_left;(intro w';go_simp;with_reducible rfl);rotate_left;exact pA
    refine puA 2 (some 23) ?_ (bm 31 7) rfl rfl HT_.out (Or.inl ⟨by kernel_rfl,?_⟩) ?_ ?_ ?_
    rotate_left;(intro w';go_simp;with_reducible rfl);rotate_left;exact pA
    refine puA 3 (some 24) ?_ (bm 31 15) rfl rfl HT_.out (Or.inl ⟨by kernel_rfl,?_⟩) ?_ ?_ ?_
    rotate_left;(intro w';go_simp;with_reducible rfl);rotate_left;exact pA
    refine puA 4 (some 25) ?_ (bm 31 31) rfl rfl HT_.out (Or.inl ⟨by kernel_rfl,?_⟩) ?_ ?_ ?_
    rotate_left;(intro w';go_simp;with_reducible rfl);rotate_left;exact pA
    refine puA 5 (some 26) ?_ (bm 31 63) rfl rfl HT_.out (Or.inl ⟨by kernel_rfl,?_⟩) ?_ ?_ ?_
    rotate_left;(intro w';go_simp;with_reducible rfl);rotate_left;exact pA
    refine puA 6 (some 27) ?_ (bm 31 127) rfl rfl HT_.out (Or.inl ⟨by kernel_rfl,?_⟩) ?_ ?_ ?_
    rotate_left;(intro w';go_simp;with_reducible rfl);rotate_left;exact pA
    refine puA 7 (some 28) ?_ (bm 31 255) rfl rfl HT_.out (Or.inl ⟨by kernel_rfl,?_⟩) ?_ ?_ ?_
    rotate_left;(intro w';go_simp;with_reducible rfl);rotate_left;exact pA
    refine puA 8 (some 29) ?_ (bm 31 511) rfl rfl HT_.out (Or.inl ⟨by kernel_rfl,?_⟩) ?_ ?_ ?_
    rotate_left;(intro w';go_simp;with_reducible rfl);rotate_left;exact pA
    refine puA 9 (some 30) undef (bm 31 1023) rfl rfl HT_.out (Or.inr ⟨by rfl,rfl⟩) ?_ ?_ ?_
    rotate_left
    ·exact pA
    refine puA 10 (some 31) undef (bm 31 2047) rfl rfl HT_.out (Or.inr ⟨by rfl,rfl⟩) ?_ ?_ ?_
    rotate_left
    ·exact pA
    refine puA 11 (some 32) undef (bm 31 4095) rfl rfl HT_.out (Or.inr ⟨by rfl,rfl⟩) ?_ ?_ ?_
    rotate_left
    ·exact pA
    refine puA 12 (some 33) undef (bm 31 8191) rfl rfl HT_.out (Or.inr ⟨by rfl,rfl⟩) ?_ ?_ ?_
    rotate_left
    ·exact pA
    refine puA 13 (some 34) undef (bm 31 16383) rfl rfl HT_.out (Or.inr ⟨by rfl,rfl⟩) ?_ ?_ ?_
    rotate_left
    ·exact pA
    refine puA 14 (some 35) ?_ (bm 31 32767) rfl rfl HT_.out (Or.inl ⟨by kernel_rfl,?_⟩) ?_ ?_ ?_
    rotate_left;(intro w';go_simp;with_reducible rfl);rotate_left;exact pA
    refine puA 15 (some 36) ?_ (bm 31 65535) rfl rfl HT_.out (Or.inl ⟨by kernel_rfl,?_⟩) ?_ ?_ ?_
    rotate_left;(intro w';go_simp;with_reducible rfl);rotate_left;exact pA
    refine puA 16 (some 37) undef (bm 31 131071) rfl rfl HT_.out (Or.inr ⟨by rfl,rfl⟩) ?_ ?_ ?_
    rotate_left
    ·exact pA
    refine puA 17 (some 38) undef (bm 31 262143) rfl rfl HT_.out (Or.inr ⟨by rfl,rfl⟩) ?_ ?_ ?_
    rotate_left
    ·exact pA
    refine puA 18 (some 39) undef (bm 31 524287) rfl rfl HT_.out (Or.inr ⟨by rfl,rfl⟩) ?_ ?_ ?_
    rotate_left
    ·exact pA
    refine puA 19 (some 40) undef (bm 31 1048575) rfl rfl HT_.out (Or.inr ⟨by rfl,rfl⟩) ?_ ?_ ?_
    rotate_left
    ·exact pA
    refine puA 20 (some 41) undef (bm 31 2097151) rfl rfl HT_.out (Or.inr ⟨by rfl,rfl⟩) ?_ ?_ ?_
    rotate_left
    ·exact pA
    refine puA 21 (some 42) undef (bm 31 4194303) rfl rfl HT_.out (Or.inr ⟨by rfl,rfl⟩) ?_ ?_ ?_
    rotate_left
    ·exact pA
    refine puA 22 (some 43) undef (bm 31 8388607) rfl rfl HT_.out (Or.inr ⟨by rfl,rfl⟩) ?_ ?_ ?_
    rotate_left
    ·exact pA
    refine puA 23 (some 44) ?_ (bm 31 16777215) rfl rfl HT_.out (Or.inl ⟨by kernel_rfl,?_⟩) ?_ ?_ ?_
    rotate_left;(intro w';go_simp;with_reducible rfl);rotate_left;exact pA
    refine puA 24 (some 45) ?_ (bm 31 33554431) rfl rfl HT_.out (Or.inl ⟨by kernel_rfl,?_⟩) ?_ ?_ ?_
    rotate_left;(intro w';go_simp;with_reducible rfl);rotate_left;exact pA
    refine puA 25 (some 46) undef (bm 31 67108863) rfl rfl HT_.out (Or.inr ⟨by rfl,rfl⟩) ?_ ?_ ?_
    rotate_left
    ·exact pA
    refine puA 26 (some 47) undef (bm 31 134217727) rfl rfl HT_.out (Or.inr ⟨by rfl,rfl⟩) ?_ ?_ ?_
    rotate_left
    ·exact pA
    refine puA 27 (some 48) undef (bm 31 268435455) rfl rfl HT_.out (Or.inr ⟨by rfl,rfl⟩) ?_ ?_ ?_
    rotate_left
    ·exact pA
    refine puA 28 (some 49) undef (bm 31 536870911) rfl rfl HT_.out (Or.inr ⟨by rfl,rfl⟩) ?_ ?_ ?_
    rotate_left
    ·exact pA
    refine puA 29 (some 50) undef (bm 31 1073741823) rfl rfl HT_.out (Or.inr ⟨by rfl,rfl⟩) ?_ ?_ ?_
    rotate_left
    ·exact pA
    refine puA 30 (some 51) ?_ (bm 31 2147483647) rfl rfl HT_.out (Or.inl ⟨by kernel_rfl,?_⟩) ?_ ?_ ?_
    rotate_left;(intro w';go_simp;with_reducible rfl);rotate_left;exact pA
    refine done_ (zXI HT_.out (by kernel_rfl)) ?_
    (try go_wp2);go_meet
    case rel => exact ⟨_,(true),pS,H',⟨by first | omega | exact Nat.le_refl _⟩,⟨pK aA.out⟩,⟨pB⟩⟩
   ·(have dN : (aD != aG) = false := by simpa using aH);(try (have dO : decide (aD = aG) = true := by simpa using aH));(try (have dP : (aD == aG) = true := by simpa using aH));clear aH;obtain ⟨⟨aT,aU,aV,aW⟩,dC,H⟩ := oB H;(try dsimp only at H);obtain ⟨⟨aX,aY,aZ,bA⟩,dD,H⟩ := oB H;(try dsimp only at H);rcases iT H with ⟨bO,H⟩ | ⟨bO,H⟩
    ·have dQ : (!(aT == aX) || (!(aU == aY) || (!(aV.toList == aZ.toList) || (!(aW == bA))))) = true := bO;clear bO;have H' := am H;clear H;(try go_wp2);replace aA := am (zQe aA.out);replace HB := am (zQC HB.out);refine zXS (n := 31) (S := fun w' => True) (ds := []) (bm 31 0) (by kernel_rfl) rfl rfl trivial (fun hHeld => ?_);refine zXj w8_ValueNumbers.tab3 w8_ValueNumbers.bits3 (fun HT_ HW_ => ?_);generalize bN.drew = eY at aA HB hHeld ⊢
     refine puA 0 (some 21) ?_ (bm 31 1) rfl rfl HT_.out (Or.inl ⟨by kernel_rfl,?_⟩) ?_ ?_ ?_
     rotate_left;(intro w';go_simp;with_reducible rfl);rotate_left;exact pA
     refine puA 1 (some 22) ?_ (bm 31 3) rfl rfl HT_.out (Or.inl ⟨by kernel_rfl,?_⟩) ?_ ?_ ?_
     rotate_left;(intro w';go_simp;with_reducible rfl);rotate_left;exact pA
     refine puA 2 (some 23) ?_ (bm 31 7) rfl rfl HT_.out (Or.inl ⟨by kernel_rfl,?_⟩) ?_ ?_ ?_
     rotate_left;(intro w';go_simp;with_reducible rfl);rotate_left;exact pA
     refine puA 3 (some 24) ?_ (bm 31 15) rfl rfl HT_.out (Or.inl ⟨by kernel_rfl,?_⟩) ?_ ?_ ?_
     rotate_left;(intro w';go_simp;with_reducible rfl);rotate_left;exact pA
     refine puA 4 (some 25) ?_ (bm 31 31) rfl rfl HT_.out (Or.inl ⟨by kernel_rfl,?_⟩) ?_ ?_ ?_
     rotate_left;(intro w';go_simp;with_reducible rfl);rotate_left;exact pA
     refine puA 5 (some 26) ?_ (bm 31 63) rfl rfl HT_.out (Or.inl ⟨by kernel_rfl,?_⟩) ?_ ?_ ?_
     rotate_left;(intro w';go_simp;with_reducible rfl);rotate_left;exact pA
     refine puA 6 (some 27) ?_ (bm 31 127) rfl rfl HT_.out (Or.inl ⟨by kernel_rfl,?_⟩) ?_ ?_ ?_
     rotate_left;(intro w';go_simp;with_reducible rfl);rotate_left;exact pA
     refine puA 7 (some 28) ?_ (bm 31 255) rfl rfl HT_.out (Or.inl ⟨by kernel_rfl,?_⟩) ?_ ?_ ?_
     rotate_left;(intro w';go_simp;with_reducible rfl);rotate_left;exact pA
     refine puA 8 (some 29) ?_ (bm 31 511) rfl rfl HT_.out (Or.inl ⟨by kernel_rfl,?_⟩) ?_ ?_ ?_
     rotate_left;(intro w';go_simp;with_reducible rfl);rotate_left;exact pA
     refine puA 9 (some 30) ?_ (bm 31 1023) rfl rfl HT_.out (Or.inl ⟨by kernel_rfl,?_⟩) ?_ ?_ ?_
     rotate_left;(intro w';go_simp;with_reducible rfl);rotate_left;exact pA
     refine puA 11 (some 32) ?_ (bm 31 3071) rfl rfl HT_.out (Or.inl ⟨by kernel_rfl,?_⟩) ?_ ?_ ?_
     rotate_left;(intro w';go_simp;with_reducible rfl);rotate_left;exact pA;refine one_ (i := 10) (N := some 31) (bm 31 4095) rfl rfl (zQJ HT_.out (by kernel_rfl)) (by decide) (fun K hK => ?_)
     refine goes_ Tryz.func7 (by kernel_rfl) rfl #[.int .u64 a1] (by rfl) rfl rfl pM ?_
     with_reducible refine (value_Num.calls a1 aT aU aV aW _ dC.out).mono ?_
     rintro e eZ ⟨rfl,hb⟩;refine ⟨_,rfl,?_⟩;have n0_ := am (pkb aA.out hb);have n1_ := bS hb;clear aA HB;have aA := n0_;have HB := n1_;clear n0_ n1_;(try clear hb);refine hK.out _ _ trivial (fun hHeld => ?_);clear hK K
     refine norm_ (a' := ?_) ?_ ?_
     rotate_left;(show Act.put _ (some 31) _ = _;exact pA);refine one_ (i := 12) (N := some 33) (bm 31 8191) rfl rfl (zQJ HT_.out (by kernel_rfl)) (by decide) (fun K hK => ?_)
     refine goes_ Tryz.func8 (by kernel_rfl) rfl #[.int .u64 a1] (by rfl) rfl rfl pM ?_
     with_reducible refine (r8_Num.calls k a1 aX aY aZ bA _ dD.out).mono ?_
     rintro e fA ⟨rfl,hb⟩;refine ⟨_,rfl,?_⟩;have n0_ := am (pkb aA.out hb);have n1_ := bS hb;clear aA HB;have aA := n0_;have HB := n1_;clear n0_ n1_;(try clear hb);refine hK.out _ _ trivial (fun hHeld => ?_);clear hK K
     refine norm_ (a' := ?_) ?_ ?_
     rotate_left;(show Act.put _ (some 33) _ = _;exact pA)
     refine puA 13 (some 34) ?_ (bm 31 16383) rfl rfl HT_.out (Or.inl ⟨by kernel_rfl,?_⟩) ?_ ?_ ?_
     rotate_left;(intro w';go_simp;with_reducible rfl);rotate_left;exact pA
     refine puA 14 (some 35) ?_ (bm 31 32767) rfl rfl HT_.out (Or.inl ⟨by kernel_rfl,?_⟩) ?_ ?_ ?_
     rotate_left;(intro w';go_simp;with_reducible rfl);rotate_left;exact pA
     refine puA 15 (some 36) ?_ (bm 31 65535) rfl rfl HT_.out (Or.inl ⟨by kernel_rfl,?_⟩) ?_ ?_ ?_
     rotate_left;(intro w';go_simp;with_reducible rfl);rotate_left;exact pA
     refine puA 16 (some 37) undef (bm 31 131071) rfl rfl HT_.out (Or.inr ⟨by rfl,rfl⟩) ?_ ?_ ?_
     rotate_left
     ·exact pA
     refine puA 17 (some 38) undef (bm 31 262143) rfl rfl HT_.out (Or.inr ⟨by rfl,rfl⟩) ?_ ?_ ?_
     rotate_left
     ·exact pA
     refine puA 18 (some 39) undef (bm 31 524287) rfl rfl HT_.out (Or.inr ⟨by rfl,rfl⟩) ?_ ?_ ?_
     rotate_left
     ·exact pA
     refine puA 19 (some 40) undef (bm 31 1048575) rfl rfl HT_.out (Or.inr ⟨by rfl,rfl⟩) ?_ ?_ ?_
     rotate_left
     ·exact pA
     refine puA 20 (some 41) undef (bm 31 2097151) rfl rfl HT_.out (Or.inr ⟨by rfl,rfl⟩) ?_ ?_ ?_
     rotate_left
     ·exact pA
     refine puA 21 (some 42) undef (bm 31 4194303) rfl rfl HT_.out (Or.inr ⟨by rfl,rfl⟩) ?_ ?_ ?_
     rotate_left
     ·exact pA
     refine puA 22 (some 43) undef (bm 31 8388607) rfl rfl HT_.out (Or.inr ⟨by rfl,rfl⟩) ?_ ?_ ?_
     rotate_left
     ·exact pA
     refine puA 23 (some 44) ?_ (bm 31 16777215) rfl rfl HT_.out (Or.inl ⟨by kernel_rfl,?_⟩) ?_ ?_ ?_
     rotate_left;(intro w';go_simp;with_reducible rfl);rotate_left;exact pA
     refine puA 24 (some 45) ?_ (bm 31 33554431) rfl rfl HT_.out (Or.inl ⟨by kernel_rfl,?_⟩) ?_ ?_ ?_
     rotate_left;(intro w';go_simp;with_reducible rfl);rotate_left;exact pA
     refine puA 25 (some 46) undef (bm 31 67108863) rfl rfl HT_.out (Or.inr ⟨by rfl,rfl⟩) ?_ ?_ ?_
     rotate_left
     ·exact pA
     refine puA 26 (some 47) undef (bm 31 134217727) rfl rfl HT_.out (Or.inr ⟨by rfl,rfl⟩) ?_ ?_ ?_
     rotate_left
     ·exact pA
     refine puA 27 (some 48) undef (bm 31 268435455) rfl rfl HT_.out (Or.inr ⟨by rfl,rfl⟩) ?_ ?_ ?_
     rotate_left
     ·exact pA
     refine puA 28 (some 49) undef (bm 31 536870911) rfl rfl HT_.out (Or.inr ⟨by rfl,rfl⟩) ?_ ?_ ?_
     rotate_left
     ·exact pA
     refine puA 29 (some 50) undef (bm 31 1073741823) rfl rfl HT_.out (Or.inr ⟨by rfl,rfl⟩) ?_ ?_ ?_
     rotate_left
     ·exact pA
     refine puA 30 (some 51) ?_ (bm 31 2147483647) rfl rfl HT_.out (Or.inl ⟨by kernel_rfl,?_⟩) ?_ ?_ ?_
     rotate_left;(intro w';go_simp;with_reducible rfl);rotate_left;exact pA
     refine done_ (zXI HT_.out (by kernel_rfl)) ?_
     (try go_wp2);go_meet
     case rel => exact ⟨_,(true),pS,H',⟨by first | omega | exact Nat.le_refl _⟩,⟨pK aA.out⟩,⟨pB⟩⟩
    ·(have dQ : (!(aT == aX) || (!(aU == aY) || (!(aV.toList == aZ.toList) || (!(aW == bA))))) = false := by simpa using bO);clear bO;obtain ⟨⟨bE,bF,bG,bH⟩,dS,H⟩ := oB H;(try dsimp only at H);obtain ⟨⟨bI,bJ,bK,bL⟩,dU,H⟩ := oB H;(try dsimp only at H);rcases iT H with ⟨bB,H⟩ | ⟨bB,H⟩
     ·have cZ : (!(bE == bI) || (!(bF == bJ) || (!(bG.toList == bK.toList) || (!(bH == bL))))) = true := bB;clear bB;have H' := am H;clear H;(try go_wp2);replace aA := am (zQe aA.out);replace HB := am (zQC HB.out);refine zXS (n := 31) (S := fun w' => w'.cell? ⟨aC,0,none⟩ = some (.int .i64 a0_0) ∧ w'.cell? ⟨aC,1,none⟩ = some (.int .u64 a0_1) ∧ w'.cell? ⟨aC,2,none⟩ = some (.string a0_2) ∧ w'.cell? ⟨aC,3,none⟩ = some (.int .i64 a0_3)) (ds := []) (bm 31 0) (by kernel_rfl) rfl rfl ⟨cz0 aA.out,cz1 aA.out,cz2 aA.out,cz3 aA.out⟩ (fun hHeld => ?_);refine zXj w8_ValueNumbers.tab3 w8_ValueNumbers.bits3 (fun HT_ HW_ => ?_);generalize bN.drew = fB at aA HB hHeld ⊢
      refine puA 0 (some 21) ?_ (bm 31 1) rfl rfl HT_.out (Or.inl ⟨by kernel_rfl,?_⟩) ?_ ?_ ?_
      rotate_left;(intro w';go_simp;with_reducible rfl);rotate_left;exact pA
      refine puA 1 (some 22) ?_ (bm 31 3) rfl rfl HT_.out (Or.inl ⟨by kernel_rfl,?_⟩) ?_ ?_ ?_
      rotate_left;(intro w';go_simp;with_reducible rfl);rotate_left;exact pA
      refine puA 2 (some 23) ?_ (bm 31 7) rfl rfl HT_.out (Or.inl ⟨by kernel_rfl,?_⟩) ?_ ?_ ?_
      rotate_left;(intro w';go_simp;with_reducible rfl);rotate_left;exact pA
      refine puA 3 (some 24) ?_ (bm 31 15) rfl rfl HT_.out (Or.inl ⟨by kernel_rfl,?_⟩) ?_ ?_ ?_
      rotate_left;(intro w';go_simp;with_reducible rfl);rotate_left;exact pA
      refine puA 4 (some 25) ?_ (bm 31 31) rfl rfl HT_.out (Or.inl ⟨by kernel_rfl,?_⟩) ?_ ?_ ?_
      rotate_left;(intro w';go_simp;with_reducible rfl);rotate_left;exact pA
      refine puA 5 (some 26) ?_ (bm 31 63) rfl rfl HT_.out (Or.inl ⟨by kernel_rfl,?_⟩) ?_ ?_ ?_
      rotate_left;(intro w';go_simp;with_reducible rfl);rotate_left;exact pA
      refine puA 6 (some 27) ?_ (bm 31 127) rfl rfl HT_.out (Or.inl ⟨by kernel_rfl,?_⟩) ?_ ?_ ?_
      rotate_left;(intro w';go_simp;with_reducible rfl);rotate_left;exact pA
      refine puA 7 (some 28) ?_ (bm 31 255) rfl rfl HT_.out (Or.inl ⟨by kernel_rfl,?_⟩) ?_ ?_ ?_
      rotate_left;(intro w';go_simp;with_reducible rfl);rotate_left;exact pA
      refine puA 8 (some 29) ?_ (bm 31 511) rfl rfl HT_.out (Or.inl ⟨by kernel_rfl,?_⟩) ?_ ?_ ?_
      rotate_left;(intro w';go_simp;with_reducible rfl);rotate_left;exact pA
      refine puA 9 (some 30) ?_ (bm 31 1023) rfl rfl HT_.out (Or.inl ⟨by kernel_rfl,?_⟩) ?_ ?_ ?_
      rotate_left;(intro w';go_simp;with_reducible rfl);rotate_left;exact pA
      refine puA 11 (some 32) ?_ (bm 31 3071) rfl rfl HT_.out (Or.inl ⟨by kernel_rfl,?_⟩) ?_ ?_ ?_
      rotate_left;(intro w';go_simp;with_reducible rfl);rotate_left;exact pA;refine one_ (i := 10) (N := some 31) (bm 31 4095) rfl rfl (zQJ HT_.out (by kernel_rfl)) (by decide) (fun K hK => ?_)
      refine goes_ Tryz.func7 (by kernel_rfl) rfl #[.int .u64 a1] (by rfl) rfl rfl pM ?_
      with_reducible refine (value_Num.calls a1 aT aU aV aW _ dC.out).mono ?_
      rintro e fC ⟨rfl,hb⟩;refine ⟨_,rfl,?_⟩;have n0_ := am (pkb aA.out hb);have n1_ := bS hb;clear aA HB;have aA := n0_;have HB := n1_;clear n0_ n1_;(try clear hb);refine hK.out _ _ ⟨cz0 aA.out,cz1 aA.out,cz2 aA.out,cz3 aA.out⟩ (fun hHeld => ?_);clear hK K
      refine norm_ (a' := ?_) ?_ ?_
      rotate_left;(show Act.put _ (some 31) _ = _;exact pA);refine one_ (i := 12) (N := some 33) (bm 31 8191) rfl rfl (zQJ HT_.out (by kernel_rfl)) (by decide) (fun K hK => ?_)
      refine goes_ Tryz.func8 (by kernel_rfl) rfl #[.int .u64 a1] (by rfl) rfl rfl pM ?_
      with_reducible refine (r8_Num.calls k a1 aX aY aZ bA _ dD.out).mono ?_
      rintro e fD ⟨rfl,hb⟩;refine ⟨_,rfl,?_⟩;have n0_ := am (pkb aA.out hb);have n1_ := bS hb;clear aA HB;have aA := n0_;have HB := n1_;clear n0_ n1_;(try clear hb);refine hK.out _ _ ⟨cz0 aA.out,cz1 aA.out,cz2 aA.out,cz3 aA.out⟩ (fun hHeld => ?_);clear hK K
      refine norm_ (a' := ?_) ?_ ?_
      rotate_left;(show Act.put _ (some 33) _ = _;exact pA)
      refine puA 13 (some 34) ?_ (bm 31 16383) rfl rfl HT_.out (Or.inl ⟨by kernel_rfl,?_⟩) ?_ ?_ ?_
      rotate_left;(intro w';go_simp;with_reducible rfl);rotate_left;exact pA
      refine puA 14 (some 35) ?_ (bm 31 32767) rfl rfl HT_.out (Or.inl ⟨by kernel_rfl,?_⟩) ?_ ?_ ?_
      rotate_left;(intro w';go_simp;with_reducible rfl);rotate_left;exact pA
      refine puA 15 (some 36) ?_ (bm 31 65535) rfl rfl HT_.out (Or.inl ⟨by kernel_rfl,?_⟩) ?_ ?_ ?_
      rotate_left;(intro w';go_simp;with_reducible rfl);rotate_left;exact pA
      refine puA 16 (some 37) ?_ (bm 31 131071) rfl rfl HT_.out (Or.inl ⟨by kernel_rfl,?_⟩) ?_ ?_ ?_
      rotate_left;(intro w';go_simp;with_reducible rfl);rotate_left;exact pA
      refine puA 19 (some 40) ?_ (bm 31 655359) rfl rfl HT_.out (Or.inl ⟨by kernel_rfl,?_⟩) ?_ ?_ ?_
      rotate_left;(intro w';go_simp;with_reducible rfl);rotate_left;exact pA
      refine take_ (i := 17) (N := some 38) (v := ?_) (a' := ?_) (bm 31 786431) rfl rfl (zXg HT_.out HW_.out (by kernel_rfl)) (fun _ _ _ h => h) (Or.inl ⟨by kernel_rfl,?_⟩) hHeld ?_ ?_
      rotate_left;(rintro w' ⟨s0,s1,s2,s3⟩;go_simp;with_reducible rfl);rotate_left;exact pA
      refine take_ (i := 20) (N := some 41) (v := ?_) (a' := ?_) (bm 31 1835007) rfl rfl (zXg HT_.out HW_.out (by kernel_rfl)) (fun _ _ _ h => h) (Or.inl ⟨by kernel_rfl,?_⟩) hHeld ?_ ?_
      rotate_left;(rintro w' ⟨s0,s1,s2,s3⟩;go_simp;with_reducible rfl);rotate_left;exact pA;refine one_ (i := 18) (N := some 39) (bm 31 2097151) rfl rfl (zQJ HT_.out (by kernel_rfl)) (by decide) (fun K hK => ?_)
      refine goes_ Tryz.func9 (by kernel_rfl) rfl #[.string a0_2] (by rfl) rfl rfl pM ?_
      with_reducible refine (value_Text.calls a0_2 bE bF bG bH _ dS.out).mono ?_
      rintro e fE ⟨rfl,hb⟩;refine ⟨_,rfl,?_⟩;have n0_ := am (pkb aA.out hb);have n1_ := bS hb;clear aA HB;have aA := n0_;have HB := n1_;clear n0_ n1_;(try clear hb);refine hK.out _ _ ⟨cz0 aA.out,cz1 aA.out,cz2 aA.out,cz3 aA.out⟩ (fun hHeld => ?_);clear hK K
      refine norm_ (a' := ?_) ?_ ?_
      rotate_left;(show Act.put _ (some 39) _ = _;exact pA);refine one_ (i := 21) (N := some 42) (bm 31 4194303) rfl rfl (zQJ HT_.out (by kernel_rfl)) (by decide) (fun K hK => ?_)
      refine goes_ Tryz.func10 (by kernel_rfl) rfl #[.string a0_2] (by rfl) rfl rfl pM ?_
      with_reducible refine (r8_Text.calls a0_2 bI bJ bK bL _ dU.out).mono ?_
      rintro e fF ⟨rfl,hb⟩;refine ⟨_,rfl,?_⟩;have n0_ := am (pkb aA.out hb);have n1_ := bS hb;clear aA HB;have aA := n0_;have HB := n1_;clear n0_ n1_;(try clear hb);refine hK.out _ _ ⟨cz0 aA.out,cz1 aA.out,cz2 aA.out,cz3 aA.out⟩ (fun hHeld => ?_);clear hK K
      refine norm_ (a' := ?_) ?_ ?_
      rotate_left;(show Act.put _ (some 42) _ = _;exact pA)
      refine puA 22 (some 43) ?_ (bm 31 8388607) rfl rfl HT_.out (Or.inl ⟨by kernel_rfl,?_⟩) ?_ ?_ ?_
      rotate_left;(intro w';go_simp;with_reducible rfl);rotate_left;exact pA
      refine puA 23 (some 44) ?_ (bm 31 16777215) rfl rfl HT_.out (Or.inl ⟨by kernel_rfl,?_⟩) ?_ ?_ ?_
      rotate_left;(intro w';go_simp;with_reducible rfl);rotate_left;exact pA
      refine puA 24 (some 45) ?_ (bm 31 33554431) rfl rfl HT_.out (Or.inl ⟨by kernel_rfl,?_⟩) ?_ ?_ ?_
      rotate_left;(intro w';go_simp;with_reducible rfl);rotate_left;exact pA
      refine puA 25 (some 46) undef (bm 31 67108863) rfl rfl HT_.out (Or.inr ⟨by rfl,rfl⟩) ?_ ?_ ?_
      rotate_left
      ·exact pA
      refine puA 26 (some 47) undef (bm 31 134217727) rfl rfl HT_.out (Or.inr ⟨by rfl,rfl⟩) ?_ ?_ ?_
      rotate_left
      ·exact pA
      refine puA 27 (some 48) undef (bm 31 268435455) rfl rfl HT_.out (Or.inr ⟨by rfl,rfl⟩) ?_ ?_ ?_
      rotate_left
      ·exact pA
      refine puA 28 (some 49) undef (bm 31 536870911) rfl rfl HT_.out (Or.inr ⟨by rfl,rfl⟩) ?_ ?_ ?_
      rotate_left
      ·exact pA
      refine puA 29 (some 50) undef (bm 31 1073741823) rfl rfl HT_.out (Or.inr ⟨by rfl,rfl⟩) ?_ ?_ ?_
      rotate_left
      ·exact pA
      refine puA 30 (some 51) ?_ (bm 31 2147483647) rfl rfl HT_.out (Or.inl ⟨by kernel_rfl,?_⟩) ?_ ?_ ?_
      rotate_left;(intro w';go_simp;with_reducible rfl);rotate_left;exact pA
      refine done_ (zXI HT_.out (by kernel_rfl)) ?_
      (try go_wp2);go_meet
      case rel => exact ⟨_,(true),pS,H',⟨by first | omega | exact Nat.le_refl _⟩,⟨pK aA.out⟩,⟨pB⟩⟩
     ·(have cZ : (!(bE == bI) || (!(bF == bJ) || (!(bG.toList == bK.toList) || (!(bH == bL))))) = false := by simpa using bB);clear bB;obtain ⟨⟨dE,dF,dG,dH⟩,dZ,H⟩ := oB H;(try dsimp only at H);obtain ⟨⟨dI,dJ,dK,dL⟩,eB,H⟩ := oB H;(try dsimp only at H);have H' := am H;clear H;(try go_wp2);replace aA := am (zQe aA.out);replace HB := am (zQC HB.out);refine zXS (n := 31) (S := fun w' => w'.cell? ⟨aC,0,none⟩ = some (.int .i64 a0_0) ∧ w'.cell? ⟨aC,1,none⟩ = some (.int .u64 a0_1) ∧ w'.cell? ⟨aC,2,none⟩ = some (.string a0_2) ∧ w'.cell? ⟨aC,3,none⟩ = some (.int .i64 a0_3)) (ds := []) (bm 31 0) (by kernel_rfl) rfl rfl ⟨cz0 aA.out,cz1 aA.out,cz2 aA.out,cz3 aA.out⟩ (fun hHeld => ?_);refine zXj w8_ValueNumbers.tab3 w8_ValueNumbers.bits3 (fun HT_ HW_ => ?_);generalize bN.drew = fG at aA HB hHeld ⊢
      refine puA 0 (some 21) ?_ (bm 31 1) rfl rfl HT_.out (Or.inl ⟨by kernel_rfl,?_⟩) ?_ ?_ ?_
      rotate_left;(intro w';go_simp;with_reducible rfl);rotate_left;exact pA
      refine puA 1 (some 22) ?_ (bm 31 3) rfl rfl HT_.out (Or.inl ⟨by kernel_rfl,?_⟩) ?_ ?_ ?_
      rotate_left;(intro w';go_simp;with_reducible rfl);rotate_left;exact pA
      refine puA 2 (some 23) ?_ (bm 31 7) rfl rfl HT_.out (Or.inl ⟨by kernel_rfl,?_⟩) ?_ ?_ ?_
      rotate_left;(intro w';go_simp;with_reducible rfl);rotate_left;exact pA
      refine puA 3 (some 24) ?_ (bm 31 15) rfl rfl HT_.out (Or.inl ⟨by kernel_rfl,?_⟩) ?_ ?_ ?_
      rotate_left;(intro w';go_simp;with_reducible rfl);rotate_left;exact pA
      refine puA 4 (some 25) ?_ (bm 31 31) rfl rfl HT_.out (Or.inl ⟨by kernel_rfl,?_⟩) ?_ ?_ ?_
      rotate_left;(intro w';go_simp;with_reducible rfl);rotate_left;exact pA
      refine puA 5 (some 26) ?_ (bm 31 63) rfl rfl HT_.out (Or.inl ⟨by kernel_rfl,?_⟩) ?_ ?_ ?_
      rotate_left;(intro w';go_simp;with_reducible rfl);rotate_left;exact pA
      refine puA 6 (some 27) ?_ (bm 31 127) rfl rfl HT_.out (Or.inl ⟨by kernel_rfl,?_⟩) ?_ ?_ ?_
      rotate_left;(intro w';go_simp;with_reducible rfl);rotate_left;exact pA
      refine puA 7 (some 28) ?_ (bm 31 255) rfl rfl HT_.out (Or.inl ⟨by kernel_rfl,?_⟩) ?_ ?_ ?_
      rotate_left;(intro w';go_simp;with_reducible rfl);rotate_left;exact pA
      refine puA 8 (some 29) ?_ (bm 31 511) rfl rfl HT_.out (Or.inl ⟨by kernel_rfl,?_⟩) ?_ ?_ ?_
      rotate_left;(intro w';go_simp;with_reducible rfl);rotate_left;exact pA
      refine puA 9 (some 30) ?_ (bm 31 1023) rfl rfl HT_.out (Or.inl ⟨by kernel_rfl,?_⟩) ?_ ?_ ?_
      rotate_left;(intro w';go_simp;with_reducible rfl);rotate_left;exact pA
      refine puA 11 (some 32) ?_ (bm 31 3071) rfl rfl HT_.out (Or.inl ⟨by kernel_rfl,?_⟩) ?_ ?_ ?_
      rotate_left;(intro w';go_simp;with_reducible rfl);rotate_left;exact pA;refine one_ (i := 10) (N := some 31) (bm 31 4095) rfl rfl (zQJ HT_.out (by kernel_rfl)) (by decide) (fun K hK => ?_)
      refine goes_ Tryz.func7 (by kernel_rfl) rfl #[.int .u64 a1] (by rfl) rfl rfl pM ?_
      with_reducible refine (value_Num.calls a1 aT aU aV aW _ dC.out).mono ?_
      rintro e fH ⟨rfl,hb⟩;refine ⟨_,rfl,?_⟩;have n0_ := am (pkb aA.out hb);have n1_ := bS hb;clear aA HB;have aA := n0_;have HB := n1_;clear n0_ n1_;(try clear hb);refine hK.out _ _ ⟨cz0 aA.out,cz1 aA.out,cz2 aA.out,cz3 aA.out⟩ (fun hHeld => ?_);clear hK K
      refine norm_ (a' := ?_) ?_ ?_
      rotate_left;(show Act.put _ (some 31) _ = _;exact pA);refine one_ (i := 12) (N := some 33) (bm 31 8191) rfl rfl (zQJ HT_.out (by kernel_rfl)) (by decide) (fun K hK => ?_)
      refine goes_ Tryz.func8 (by kernel_rfl) rfl #[.int .u64 a1] (by rfl) rfl rfl pM ?_
      with_reducible refine (r8_Num.calls k a1 aX aY aZ bA _ dD.out).mono ?_
      rintro e fI ⟨rfl,hb⟩;refine ⟨_,rfl,?_⟩;have n0_ := am (pkb aA.out hb);have n1_ := bS hb;clear aA HB;have aA := n0_;have HB := n1_;clear n0_ n1_;(try clear hb);refine hK.out _ _ ⟨cz0 aA.out,cz1 aA.out,cz2 aA.out,cz3 aA.out⟩ (fun hHeld => ?_);clear hK K
      refine norm_ (a' := ?_) ?_ ?_
      rotate_left;(show Act.put _ (some 33) _ = _;exact pA)
      refine puA 13 (some 34) ?_ (bm 31 16383) rfl rfl HT_.out (Or.inl ⟨by kernel_rfl,?_⟩) ?_ ?_ ?_
      rotate_left;(intro w';go_simp;with_reducible rfl);rotate_left;exact pA
      refine puA 14 (some 35) ?_ (bm 31 32767) rfl rfl HT_.out (Or.inl ⟨by kernel_rfl,?_⟩) ?_ ?_ ?_
      rotate_left;(intro w';go_simp;with_reducible rfl);rotate_left;exact pA
      refine puA 15 (some 36) ?_ (bm 31 65535) rfl rfl HT_.out (Or.inl ⟨by kernel_rfl,?_⟩) ?_ ?_ ?_
      rotate_left;(intro w';go_simp;with_reducible rfl);rotate_left;exact pA
      refine puA 16 (some 37) ?_ (bm 31 131071) rfl rfl HT_.out (Or.inl ⟨by kernel_rfl,?_⟩) ?_ ?_ ?_
      rotate_left;(intro w';go_simp;with_reducible rfl);rotate_left;exact pA
      refine puA 19 (some 40) ?_ (bm 31 655359) rfl rfl HT_.out (Or.inl ⟨by kernel_rfl,?_⟩) ?_ ?_ ?_
      rotate_left;(intro w';go_simp;with_reducible rfl);rotate_left;exact pA
      refine take_ (i := 17) (N := some 38) (v := ?_) (a' := ?_) (bm 31 786431) rfl rfl (zXg HT_.out HW_.out (by kernel_rfl)) (fun _ _ _ h => h) (Or.inl ⟨by kernel_rfl,?_⟩) hHeld ?_ ?_
      rotate_left;(rintro w' ⟨s0,s1,s2,s3⟩;go_simp;with_reducible rfl);rotate_left;exact pA
      refine take_ (i := 20) (N := some 41) (v := ?_) (a' := ?_) (bm 31 1835007) rfl rfl (zXg HT_.out HW_.out (by kernel_rfl)) (fun _ _ _ h => h) (Or.inl ⟨by kernel_rfl,?_⟩) hHeld ?_ ?_
      rotate_left;(rintro w' ⟨s0,s1,s2,s3⟩;go_simp;with_reducible rfl);rotate_left;exact pA;refine one_ (i := 18) (N := some 39) (bm 31 2097151) rfl rfl (zQJ HT_.out (by kernel_rfl)) (by decide) (fun K hK => ?_)
      refine goes_ Tryz.func9 (by kernel_rfl) rfl #[.string a0_2] (by rfl) rfl rfl pM ?_
      with_reducible refine (value_Text.calls a0_2 bE bF bG bH _ dS.out).mono ?_
      rintro e fJ ⟨rfl,hb⟩;refine ⟨_,rfl,?_⟩;have n0_ := am (pkb aA.out hb);have n1_ := bS hb;clear aA HB;have aA := n0_;have HB := n1_;clear n0_ n1_;(try clear hb);refine hK.out _ _ ⟨cz0 aA.out,cz1 aA.out,cz2 aA.out,cz3 aA.out⟩ (fun hHeld => ?_);clear hK K
      refine norm_ (a' := ?_) ?_ ?_
      rotate_left;(show Act.put _ (some 39) _ = _;exact pA);refine one_ (i := 21) (N := some 42) (bm 31 4194303) rfl rfl (zQJ HT_.out (by kernel_rfl)) (by decide) (fun K hK => ?_)
      refine goes_ Tryz.func10 (by kernel_rfl) rfl #[.string a0_2] (by rfl) rfl rfl pM ?_
      with_reducible refine (r8_Text.calls a0_2 bI bJ bK bL _ dU.out).mono ?_
      rintro e fK ⟨rfl,hb⟩;refine ⟨_,rfl,?_⟩;have n0_ := am (pkb aA.out hb);have n1_ := bS hb;clear aA HB;have aA := n0_;have HB := n1_;clear n0_ n1_;(try clear hb);refine hK.out _ _ ⟨cz0 aA.out,cz1 aA.out,cz2 aA.out,cz3 aA.out⟩ (fun hHeld => ?_);clear hK K
      refine norm_ (a' := ?_) ?_ ?_
      rotate_left;(show Act.put _ (some 42) _ = _;exact pA)
      refine puA 22 (some 43) ?_ (bm 31 8388607) rfl rfl HT_.out (Or.inl ⟨by kernel_rfl,?_⟩) ?_ ?_ ?_
      rotate_left;(intro w';go_simp;with_reducible rfl);rotate_left;exact pA
      refine puA 23 (some 44) ?_ (bm 31 16777215) rfl rfl HT_.out (Or.inl ⟨by kernel_rfl,?_⟩) ?_ ?_ ?_
      rotate_left;(intro w';go_simp;with_reducible rfl);rotate_left;exact pA
      refine puA 24 (some 45) ?_ (bm 31 33554431) rfl rfl HT_.out (Or.inl ⟨by kernel_rfl,?_⟩) ?_ ?_ ?_
      rotate_left;(intro w';go_simp;with_reducible rfl);rotate_left;exact pA
      refine puA 25 (some 46) ?_ (bm 31 67108863) rfl rfl HT_.out (Or.inl ⟨by kernel_rfl,?_⟩) ?_ ?_ ?_
      rotate_left;(intro w';go_simp;with_reducible rfl);rotate_left;exact pA
      refine puA 27 (some 48) ?_ (bm 31 201326591) rfl rfl HT_.out (Or.inl ⟨by kernel_rfl,?_⟩) ?_ ?_ ?_
      rotate_left;(intro w';go_simp;with_reducible rfl);rotate_left;exact pA;refine one_ (i := 26) (N := some 47) (bm 31 268435455) rfl rfl (zQJ HT_.out (by kernel_rfl)) (by decide) (fun K hK => ?_)
      refine goes_ Tryz.func11 (by kernel_rfl) rfl #[.bool aD] (by rfl) rfl rfl pM ?_
      with_reducible refine (value_Bool.calls aD dE dF dG dH _ dZ.out).mono ?_
      rintro e fM ⟨rfl,hb⟩;refine ⟨_,rfl,?_⟩;have n0_ := am (pkb aA.out hb);have n1_ := bS hb;clear aA HB;have aA := n0_;have HB := n1_;clear n0_ n1_;(try clear hb);refine hK.out _ _ ⟨cz0 aA.out,cz1 aA.out,cz2 aA.out,cz3 aA.out⟩ (fun hHeld => ?_);clear hK K
      refine norm_ (a' := ?_) ?_ ?_
      rotate_left;(show Act.put _ (some 47) _ = _;exact pA);refine one_ (i := 28) (N := some 49) (bm 31 536870911) rfl rfl (zQJ HT_.out (by kernel_rfl)) (by decide) (fun K hK => ?_)
      refine goes_ Tryz.func12 (by kernel_rfl) rfl #[.bool aD] (by rfl) rfl rfl pM ?_
      with_reducible refine (r8_Bool.calls aD dI dJ dK dL _ eB.out).mono ?_
      rintro e fO ⟨rfl,hb⟩;refine ⟨_,rfl,?_⟩;have n0_ := am (pkb aA.out hb);have n1_ := bS hb;clear aA HB;have aA := n0_;have HB := n1_;clear n0_ n1_;(try clear hb);refine hK.out _ _ ⟨cz0 aA.out,cz1 aA.out,cz2 aA.out,cz3 aA.out⟩ (fun hHeld => ?_);clear hK K
      refine norm_ (a' := ?_) ?_ ?_
      rotate_left;(show Act.put _ (some 49) _ = _;exact pA)
      refine puA 29 (some 50) ?_ (bm 31 1073741823) rfl rfl HT_.out (Or.inl ⟨by kernel_rfl,?_⟩) ?_ ?_ ?_
      rotate_left;(intro w';go_simp;with_reducible rfl);rotate_left;exact pA
      refine puA 30 (some 51) ?_ (bm 31 2147483647) rfl rfl HT_.out (Or.inl ⟨by kernel_rfl,?_⟩) ?_ ?_ ?_
      rotate_left;(intro w';go_simp;with_reducible rfl);rotate_left;exact pA
      refine done_ (zXI HT_.out (by kernel_rfl)) ?_
      (try go_wp2);go_meet
      case rel => exact ⟨_,((!(dE == dI) || (!(dF == dJ) || (!(dG.toList == dK.toList) || (!(dH == dL)))))),pS,H',⟨by first | omega | exact Nat.le_refl _⟩,⟨pK aA.out⟩,⟨pB⟩⟩
  ·have aI : (aM == aN) = false := beq_eq_false_iff_ne.mpr aQ;have aJ : (aM != aN) = true := bne_iff_ne.mpr aQ;(first | rw [aI] | (simp only [i64_w,i32_w];rw [aI]) | rw [aJ] | (simp only [i64_w,i32_w];rw [aJ]) | skip);have H' := am H;clear H;(try go_wp2);replace aA := am (zQe aA.out);replace HB := am (zQC HB.out);refine zXS (n := 31) (S := fun w' => True) (ds := []) (bm 31 0) (by kernel_rfl) rfl rfl trivial (fun hHeld => ?_);refine zXj w8_ValueNumbers.tab3 w8_ValueNumbers.bits3 (fun HT_ HW_ => ?_);generalize bN.drew = fP at aA HB hHeld ⊢
   refine puA 0 (some 21) ?_ (bm 31 1) rfl rfl HT_.out (Or.inl ⟨by kernel_rfl,?_⟩) ?_ ?_ ?_
   rotate_left;(intro w';go_simp;with_reducible rfl);rotate_left;exact pA
   refine puA 1 (some 22) ?_ (bm 31 3) rfl rfl HT_.out (Or.inl ⟨by kernel_rfl,?_⟩) ?_ ?_ ?_
   rotate_left;(intro w';go_simp;with_reducible rfl);rotate_left;exact pA
   refine puA 2 (some 23) ?_ (bm 31 7) rfl rfl HT_.out (Or.inl ⟨by kernel_rfl,?_⟩) ?_ ?_ ?_
   rotate_left;(intro w';go_simp;with_reducible rfl);rotate_left;exact pA
   refine puA 3 (some 24) ?_ (bm 31 15) rfl rfl HT_.out (Or.inl ⟨by kernel_rfl,?_⟩) ?_ ?_ ?_
   rotate_left;(intro w';go_simp;with_reducible rfl);rotate_left;exact pA
   refine puA 4 (some 25) undef (bm 31 31) rfl rfl HT_.out (Or.inr ⟨by rfl,rfl⟩) ?_ ?_ ?_
   rotate_left
   ·exact pA
   refine puA 5 (some 26) undef (bm 31 63) rfl rfl HT_.out (Or.inr ⟨by rfl,rfl⟩) ?_ ?_ ?_
   rotate_left
   ·exact pA
   refine puA 6 (some 27) undef (bm 31 127) rfl rfl HT_.out (Or.inr ⟨by rfl,rfl⟩) ?_ ?_ ?_
   rotate_left
   ·exact pA
   refine puA 7 (some 28) ?_ (bm 31 255) rfl rfl HT_.out (Or.inl ⟨by kernel_rfl,?_⟩) ?_ ?_ ?_
   rotate_left;(intro w';go_simp;with_reducible rfl);rotate_left;exact pA
   refine puA 8 (some 29) ?_ (bm 31 511) rfl rfl HT_.out (Or.inl ⟨by kernel_rfl,?_⟩) ?_ ?_ ?_
   rotate_left;(intro w';go_simp;with_reducible rfl);rotate_left;exact pA
   refine puA 9 (some 30) undef (bm 31 1023) rfl rfl HT_.out (Or.inr ⟨by rfl,rfl⟩) ?_ ?_ ?_
   rotate_left
   ·exact pA
   refine puA 10 (some 31) undef (bm 31 2047) rfl rfl HT_.out (Or.inr ⟨by rfl,rfl⟩) ?_ ?_ ?_
   rotate_left
   ·exact pA
   refine puA 11 (some 32) undef (bm 31 4095) rfl rfl HT_.out (Or.inr ⟨by rfl,rfl⟩) ?_ ?_ ?_
   rotate_left
   ·exact pA
   refine puA 12 (some 33) undef (bm 31 8191) rfl rfl HT_.out (Or.inr ⟨by rfl,rfl⟩) ?_ ?_ ?_
   rotate_left
   ·exact pA
   refine puA 13 (some 34) undef (bm 31 16383) rfl rfl HT_.out (Or.inr ⟨by rfl,rfl⟩) ?_ ?_ ?_
   rotate_left
   ·exact pA
   refine puA 14 (some 35) ?_ (bm 31 32767) rfl rfl HT_.out (Or.inl ⟨by kernel_rfl,?_⟩) ?_ ?_ ?_
   rotate_left;(intro w';go_simp;with_reducible rfl);rotate_left;exact pA
   refine puA 15 (some 36) ?_ (bm 31 65535) rfl rfl HT_.out (Or.inl ⟨by kernel_rfl,?_⟩) ?_ ?_ ?_
   rotate_left;(intro w';go_simp;with_reducible rfl);rotate_left;exact pA
   refine puA 16 (some 37) undef (bm 31 131071) rfl rfl HT_.out (Or.inr ⟨by rfl,rfl⟩) ?_ ?_ ?_
   rotate_left
   ·exact pA
   refine puA 17 (some 38) undef (bm 31 262143) rfl rfl HT_.out (Or.inr ⟨by rfl,rfl⟩) ?_ ?_ ?_
   rotate_left
   ·exact pA
   refine puA 18 (some 39) undef (bm 31 524287) rfl rfl HT_.out (Or.inr ⟨by rfl,rfl⟩) ?_ ?_ ?_
   rotate_left
   ·exact pA
   refine puA 19 (some 40) undef (bm 31 1048575) rfl rfl HT_.out (Or.inr ⟨by rfl,rfl⟩) ?_ ?_ ?_
   rotate_left
   ·exact pA
   refine puA 20 (some 41) undef (bm 31 2097151) rfl rfl HT_.out (Or.inr ⟨by rfl,rfl⟩) ?_ ?_ ?_
   rotate_left
   ·exact pA
   refine puA 21 (some 42) undef (bm 31 4194303) rfl rfl HT_.out (Or.inr ⟨by rfl,rfl⟩) ?_ ?_ ?_
   rotate_left
   ·exact pA
   refine puA 22 (some 43) undef (bm 31 8388607) rfl rfl HT_.out (Or.inr ⟨by rfl,rfl⟩) ?_ ?_ ?_
   rotate_left
   ·exact pA
   refine puA 23 (some 44) ?_ (bm 31 16777215) rfl rfl HT_.out (Or.inl ⟨by kernel_rfl,?_⟩) ?_ ?_ ?_
   rotate_left;(intro w';go_simp;with_reducible rfl);rotate_left;exact pA
   refine puA 24 (some 45) ?_ (bm 31 33554431) rfl rfl HT_.out (Or.inl ⟨by kernel_rfl,?_⟩) ?_ ?_ ?_
   rotate_left;(intro w';go_simp;with_reducible rfl);rotate_left;exact pA
   refine puA 25 (some 46) undef (bm 31 67108863) rfl rfl HT_.out (Or.inr ⟨by rfl,rfl⟩) ?_ ?_ ?_
   rotate_left
   ·exact pA
   refine puA 26 (some 47) undef (bm 31 134217727) rfl rfl HT_.out (Or.inr ⟨by rfl,rfl⟩) ?_ ?_ ?_
   rotate_left
   ·exact pA
   refine puA 27 (some 48) undef (bm 31 268435455) rfl rfl HT_.out (Or.inr ⟨by rfl,rfl⟩) ?_ ?_ ?_
   rotate_left
   ·exact pA
   refine puA 28 (some 49) undef (bm 31 536870911) rfl rfl HT_.out (Or.inr ⟨by rfl,rfl⟩) ?_ ?_ ?_
   rotate_left
   ·exact pA
   refine puA 29 (some 50) undef (bm 31 1073741823) rfl rfl HT_.out (Or.inr ⟨by rfl,rfl⟩) ?_ ?_ ?_
   rotate_left
   ·exact pA
   refine puA 30 (some 51) ?_ (bm 31 2147483647) rfl rfl HT_.out (Or.inl ⟨by kernel_rfl,?_⟩) ?_ ?_ ?_
   rotate_left;(intro w';go_simp;with_reducible rfl);rotate_left;exact pA
   refine done_ (zXI HT_.out (by kernel_rfl)) ?_
   (try go_wp2);go_meet
   case rel => exact ⟨_,(true),pS,H',⟨by first | omega | exact Nat.le_refl _⟩,⟨pK aA.out⟩,⟨pB⟩⟩
 case rest =>
  clear HC5;(try clear c1);(try clear c2);(try clear p2);(try clear c7);(try clear c8);(try clear c9);(try clear fQ);(try clear aQ);(try clear aI);(try clear aJ);(try clear aH);(try clear bB);(try clear cZ);obtain ⟨kq,aK,rfl,HA,fT,aA,HB⟩ := hcut
  cases kq with
  | zero => exact absurd HA.out (by simp [w8_ValueNumbers.j0])
  | succ bC =>
   have H := HA.out;clear HA;simp only [w8_ValueNumbers.j0] at H;by_cases dA : aK = true
   ·subst dA;rw [if_pos rfl] at H
    cases H
   ·replace dA := Bool.eq_false_iff.mpr dA;subst dA;rw [if_neg (show ¬ (false = true) by decide)] at H;obtain ⟨bM,dV,H⟩ := oB H;(try dsimp only at H);rcases iT H with ⟨bP,H⟩ | ⟨bP,H⟩
    ·have dR : decide (3 ≤ bM) = true := decide_eq_true bP;clear bP;obtain ⟨dW,eD,H⟩ := oB H;(try dsimp only at H);obtain rfl := Option.some.inj H;go_wp2_with (first | ((with_reducible refine zQb (f := 13) rfl ?_);refine zQh (some 53) rfl rfl Tryz.func13 (by kernel_rfl) rfl #[.int .u64 a1] rfl pM ?_;(with_reducible refine (r1_Kind.calls bC a1 bM _ dV.out).mono ?_);rintro e w' ⟨rfl,⟨nd,rfl⟩⟩;refine ⟨_,rfl,?_⟩) | ((with_reducible refine zQb (f := 14) rfl ?_);refine zQh (some 55) rfl rfl Tryz.func14 (by kernel_rfl) rfl #[] rfl pM ?_;(with_reducible refine (w8_lives.calls bC  dW _ ?side1 eD.out).mono ?_);(case side1 => exact pG);rintro e fU ⟨rfl,hb⟩;refine ⟨_,rfl,?_⟩;replace aA := am (pkb aA.out hb);replace HB := bS hb;(try clear hb)))
     go_ret
     exact ⟨pE,pB⟩
    ·have dR : decide (3 ≤ bM) = false := decide_eq_false bP;clear bP;obtain ⟨⟨bQ,bT,bV,bW⟩,eF,H⟩ := oB H;(try dsimp only at H);obtain ⟨bX,eG,H⟩ := oB H;(try dsimp only at H);obtain ⟨⟨bY,bZ,cB,cK⟩,eH,H⟩ := oB H;(try dsimp only at H);obtain ⟨⟨cO,dX⟩,eO,H⟩ := oB H;(try dsimp only at H);obtain ⟨dM,H⟩ := iN H;have eT : (cO == a1) = true := beq_iff_eq.mpr dM;have eU : (cO != a1) = false := bne_eq_false_iff_eq.mpr dM;clear dM;by_cases dB : dX = true
     ·subst dB;rw [if_pos rfl] at H;obtain ⟨dY,eP,H⟩ := oB H;(try dsimp only at H);obtain rfl := Option.some.inj H;go_wp2_with (first | ((with_reducible refine zQb (f := 13) rfl ?_);refine zQh (some 53) rfl rfl Tryz.func13 (by kernel_rfl) rfl #[.int .u64 a1] rfl pM ?_;(with_reducible refine (r1_Kind.calls bC a1 bM _ dV.out).mono ?_);rintro e w' ⟨rfl,⟨nd,rfl⟩⟩;refine ⟨_,rfl,?_⟩) | ((with_reducible refine zQb (f := 7) rfl ?_);refine zQh (some 58) rfl rfl Tryz.func7 (by kernel_rfl) rfl #[.int .u64 a1] rfl pM ?_;(with_reducible refine (value_Num.calls a1 bQ bT bV bW _ eF.out).mono ?_);rintro e fV ⟨rfl,hb⟩;refine ⟨_,rfl,?_⟩;replace aA := am (pkb aA.out hb);replace HB := bS hb;(try clear hb)) | ((with_reducible refine zQb (f := 15) rfl ?_);refine zQh (some 59) rfl rfl Tryz.func15 (by kernel_rfl) rfl #[.agg #[.int .i64 bQ,.int .u64 bT,.string bV,.int .i64 bW]] rfl pM ?_;(with_reducible refine (value_Show.calls bC bQ bT bV bW bX _ ?side1 eG.out).mono ?_);(case side1 => exact pG);rintro e fZ ⟨rfl,hb⟩;refine ⟨_,rfl,?_⟩;replace aA := am (pkb aA.out hb);replace HB := bS hb;(try clear hb)) | ((with_reducible refine zQb (f := 9) rfl ?_);refine zQh (some 60) rfl rfl Tryz.func9 (by kernel_rfl) rfl #[.string bX] rfl pM ?_;(with_reducible refine (value_Text.calls bX bY bZ cB cK _ eH.out).mono ?_);rintro e gB ⟨rfl,hb⟩;refine ⟨_,rfl,?_⟩;replace aA := am (pkb aA.out hb);replace HB := bS hb;(try clear hb)) | ((with_reducible refine zQb (f := 5) rfl ?_);refine zQh (some 61) rfl rfl Tryz.func5 (by kernel_rfl) rfl #[.agg #[.int .i64 bY,.int .u64 bZ,.string cB,.int .i64 cK]] rfl pM ?_;(with_reducible refine (value_ToNum.calls bC bY bZ cB cK cO true _ eO.out).mono ?_);rintro e gD ⟨rfl,hb⟩;refine ⟨_,rfl,?_⟩;replace aA := am (pkb aA.out hb);replace HB := bS hb;(try clear hb)) | (go_at_call 14;(with_reducible refine (w8_lives.calls bC  dY _ ?side1 eP.out).mono ?_);(case side1 => exact pG);rintro e gF ⟨rfl,hb⟩;replace HB := bS hb))
      go_ret
      exact ⟨pE,pB⟩
     ·replace dB := Bool.eq_false_iff.mpr dB;subst dB;rw [if_neg (show ¬ (false = true) by decide)] at H
      cases H
end Go.Proofs.YtongfmeediokmaaGreatDoor.Pr
end
section
namespace Go.Proofs.YtongfmeediokmaaGreatDoor.Pure
open Go.RowKit Go.Proofs.YtongfmeediokmaaGreatDoor.Pr Go.Proofs.YtongfmeediokmaaGreatDoorW.PrintWords Go.Proofs.YtongfmeediokmaaGreatDoorW.PrintLast Go.Proofs.YtongfmeediokmaaGreatDoorW.PrintMore
def toB (x : Nat) : List Int := if x = 0 then [] else ((x % 4294967296 : Nat) : Int) :: toB (x / 4294967296)
termination_by x
decreasing_by omega
theorem zXx : toB 0 = [] := by rw [toB];rfl
theorem zYA {x : Nat} (h : x ≠ 0) : toB x = ((x % 4294967296 : Nat) : Int) :: toB (x / 4294967296) := by rw [toB,if_neg h]
def valB : List Int → Nat
 | [] => 0
 | a :: l => a.toNat + 4294967296 * valB l
def Parts (l : List Int) : Prop := ∀ x ∈ l,0 ≤ x ∧ x < 4294967296
theorem zXT (x : Nat) : valB (toB x) = x := by
 induction x using Nat.strongRecOn with
 | _ x ih =>
  by_cases h : x = 0
  ·subst h;rw [zXx];rfl
  ·rw [zYA h,valB,ih (x / 4294967296) (by omega),Int.toNat_natCast];omega
theorem zXD (x : Nat) : Parts (toB x) := by
 induction x using Nat.strongRecOn with
 | _ x ih =>
  by_cases h : x = 0
  ·subst h;rw [zXx];intro y hy;cases hy
  ·rw [zYA h];intro y hy;rcases List.mem_cons.1 hy with rfl | hy
   ·omega
   ·exact ih (x / 4294967296) (by omega) y hy
theorem val_append (l m : List Int) : valB (l ++ m) = valB l + 4294967296 ^ l.length * valB m := by
 induction l with
 | nil => simp [valB]
 | cons a l ih =>
  rw [List.cons_append,valB,valB,ih,List.length_cons,Nat.pow_succ,Nat.mul_add,← Nat.mul_assoc,Nat.mul_comm 4294967296 (4294967296 ^ l.length)];omega
theorem zWW {l : List Int} (h : Parts l) : valB l < 4294967296 ^ l.length := by
 induction l with
 | nil => simp [valB]
 | cons a l ih =>
  have h1 := ih (fun x hx => h x (List.mem_cons_of_mem _ hx));have h2 := h a (List.mem_cons_self ..);rw [valB,List.length_cons,Nat.pow_succ];omega
theorem zHR {l : List Int} (h : Parts l) (hl : l = [] ∨ l.getLast? ≠ some 0) : toB (valB l) = l := by
 induction l with
 | nil => exact zXx
 | cons a l ih =>
  have h2 := h a (List.mem_cons_self ..);(have hp : Parts l := fun x hx => h x (List.mem_cons_of_mem _ hx));have hlast : (a :: l).getLast? ≠ some 0 := hl.resolve_left (by simp)
  have hne : valB (a :: l) ≠ 0 := by
   intro h0;rw [valB] at h0;by_cases hn : l = []
   ·subst hn;simp at hlast;omega
   ·have := ih hp (.inr (by
     cases l with
     | nil => exact absurd rfl hn
     | cons b l => rwa [List.getLast?_cons_cons] at hlast))
    (have h3 : valB l = 0 := by omega);rw [h3,zXx] at this;exact hn this.symm
  rw [zYA hne];(have e1 : (valB (a :: l) % 4294967296 : Nat) = a.toNat := by rw [valB];omega);have e2 : valB (a :: l) / 4294967296 = valB l := by rw [valB];omega
  rw [e1,e2,ih hp (by
   by_cases hn : l = []
   ·exact .inl hn
   ·refine .inr ?_
    cases l with
    | nil => exact absurd rfl hn
    | cons b l => rwa [List.getLast?_cons_cons] at hlast)]
  congr 1
  omega
theorem wrapB (n : Int) (h0 : -9223372036854775808 ≤ n) (h1 : n ≤ 9223372036854775807) : wrap64 n = n := by unfold wrap64;omega
theorem zYb {l m : List Int} (h : Parts l) (g : Parts m) : Parts (l ++ m) := fun x hx => (List.mem_append.1 hx).elim (h x) (g x)
theorem zJS (m : List Int) (a : Int) : rd (m ++ [a]) (m.length : Int) = a := by
 unfold rd;rw [Int.toNat_natCast,List.getD_eq_getElem?_getD,List.getElem?_append_right (Nat.le_refl _),Nat.sub_self]
 rfl
theorem zKe : ∀ (n : Nat) (l : List Int),l.length = n → Parts l → n ≤ 4611686018427387904 → Ev (fun k => b_trim.l0 k l) (toB (valB l))
 | 0,l,hn,hp,hb => by
  obtain rfl := List.eq_nil_of_length_eq_zero hn;refine Ev.step (f := fun k => some []) (fun k => ?_) (by rw [show valB [] = 0 from rfl,zXx];exact Ev.now _);rw [b_trim.l0,if_neg (by simp)]
 | n + 1,l,hn,hp,hb => by
  obtain ⟨m,a,rfl⟩ : ∃ m a,l = m ++ [a] := ⟨l.dropLast,l.getLast (by intro h;rw [h] at hn;cases hn),(List.dropLast_concat_getLast _).symm⟩;(have hm : m.length = n := by rw [List.length_append,List.length_singleton] at hn;omega);(have hlen : (((m ++ [a]).length : Nat) : Int) = (m.length : Int) + 1 := by rw [List.length_append,List.length_singleton];omega);(have hw : wrap64 (((m ++ [a]).length : Int) - 1) = (m.length : Int) := by rw [hlen,wrapB _ (by omega) (by omega)];omega);(have hpm : Parts m := fun x hx => hp x (List.mem_append_left _ hx));have ha := hp a (List.mem_append_right _ (List.mem_singleton.2 rfl));by_cases h0 : a = 0
  ·have ih := zKe n m hm hpm (by omega);(have hv : valB (m ++ [a]) = valB m := by rw [val_append,h0];simp [valB]);rw [hv];refine Ev.step (fun k => ?_) ih;rw [b_trim.l0,if_pos (by omega),hw,if_pos (by omega),if_pos (by omega),zJS,if_pos h0,if_pos (by omega),Int.toNat_natCast,List.take_left']
   rfl
  ·refine Ev.step (f := fun k => some (m ++ [a])) (fun k => ?_) ?_
   ·rw [b_trim.l0,if_pos (by omega),hw,if_pos (by omega),if_pos (by omega),zJS,if_neg h0]
   ·rw [zHR hp (.inr (by rw [List.getLast?_append];simp;exact h0))]
    exact Ev.now _
theorem zVW {x n c : Nat} (hx : x < 4294967296) (hn : n < 4294967296) (hc : c < 4294967296) : c + x * n < 18446744073709551616 ∧ (c + x * n) / 4294967296 < 4294967296 := by
 have h : x * n ≤ 4294967295 * 4294967295 := Nat.mul_le_mul (by omega) (by omega);have h2 : (4294967295 : Nat) * 4294967295 = 18446744065119617025 := rfl;omega
theorem u64_in (n : Nat) (h : n < 18446744073709551616) : IntKind.u64.wrap (n : Int) = (n : Int) := by
 unfold IntKind.wrap;simp [IntKind.bits,IntKind.signed];omega
theorem zBj {l : List Int} {i : Nat} (h : i < l.length) : valB (l.drop i) = (l.getD i 0).toNat + 4294967296 * valB (l.drop (i + 1)) := by
 rw [List.drop_eq_getElem_cons h,valB,List.getD_eq_getElem?_getD,List.getElem?_eq_getElem h]
 rfl
theorem zKZ (l : List Int) (n : Nat) (hn : n < 4294967296) (hl : l.length ≤ 1048576) (hp : Parts l) : ∀ (d i : Nat) (acc : List Int) (c : Nat),i + d = l.length → acc.length = i → Parts acc → c < 4294967296 →
  Ev (fun k => b_times.l0 k (n : Int) acc (c : Int) l (l.length : Int) (i : Int)) (toB (valB acc + 4294967296 ^ i * (valB (l.drop i) * n + c)))
 | 0,i,acc,c,hi,ha,hpa,hc => by
  have hd : l.drop i = [] := List.drop_eq_nil_of_le (by omega)
  have hv : valB acc + 4294967296 ^ i * (valB (l.drop i) * n + c) = valB (acc ++ [(c : Int) % 4294967296]) := by
   rw [hd,val_append,ha];simp only [valB,Nat.zero_mul,Nat.zero_add,Nat.mul_zero,Nat.add_zero]
   congr 2
   omega
  rw [hv];have ht := zKe (acc ++ [(c : Int) % 4294967296]).length (acc ++ [(c : Int) % 4294967296]) rfl (zYb hpa (fun x hx => by rw [List.mem_singleton.1 hx];omega)) (by rw [List.length_append,List.length_singleton];omega);have hb : Ev (fun k => (b_trim.f k (acc ++ [(c : Int) % 4294967296])).bind fun t => some t) (toB (valB (acc ++ [(c : Int) % 4294967296]))) := Ev.bind ht (Ev.now _);refine Ev.step (fun k => ?_) hb;rw [b_times.l0,if_neg (by omega),if_pos (by omega)]
 | d + 1,i,acc,c,hi,ha,hpa,hc => by
  have hlt : i < l.length := by omega
  obtain ⟨x,hx,hx2⟩ : ∃ x : Nat,l.getD i 0 = (x : Int) ∧ x < 4294967296 := by
   have := hp (l.getD i 0) (by rw [List.getD_eq_getElem?_getD,List.getElem?_eq_getElem hlt];exact List.getElem_mem hlt);exact ⟨(l.getD i 0).toNat,by omega,by omega⟩
  (have hrd : rd l (i : Int) = (x : Int) := by unfold rd;rw [Int.toNat_natCast];exact hx);obtain ⟨hs1,hs2⟩ := zVW hx2 hn hc;have hxn : x * n < 18446744073709551616 := by omega
  have he : IntKind.u64.wrap ((c : Int) + (IntKind.u64.wrap ((IntKind.u64.wrap (rd l (i : Int))) * (IntKind.u64.wrap ((n : Nat) : Int))))) = ((c + x * n : Nat) : Int) := by
   rw [hrd,u64_in x (by omega),u64_in n (by omega),show ((x : Int) * (n : Int)) = ((x * n : Nat) : Int) by push_cast;rfl,u64_in _ hxn,show ((c : Int) + ((x * n : Nat) : Int)) = ((c + x * n : Nat) : Int) by push_cast;rfl,u64_in _ hs1]
  have ih := zKZ l n hn hl hp d (i + 1) (acc ++ [(((c + x * n) % 4294967296 : Nat) : Int)]) ((c + x * n) / 4294967296) (by omega) (by rw [List.length_append,List.length_singleton];omega) (zYb hpa (fun y hy => by rw [List.mem_singleton.1 hy];omega)) hs2
  have hv : valB acc + 4294967296 ^ i * (valB (l.drop i) * n + c) = valB (acc ++ [(((c + x * n) % 4294967296 : Nat) : Int)]) + 4294967296 ^ (i + 1) * (valB (l.drop (i + 1)) * n + (c + x * n) / 4294967296) := by
   rw [val_append,ha,zBj hlt,hx,Int.toNat_natCast,Nat.pow_succ,Nat.mul_assoc,Nat.add_assoc,← Nat.mul_add];simp only [valB,Nat.mul_zero,Nat.add_zero,Int.toNat_natCast]
   congr 2
   rw [Nat.add_mul,Nat.mul_assoc,Nat.mul_add];generalize valB (l.drop (i + 1)) * n = v;have := Nat.mod_add_div (c + x * n) 4294967296;omega
  rw [hv];refine Ev.step (fun k => ?_) ih;rw [b_times.l0,if_pos (by omega),if_pos (by omega),if_pos (by omega),if_pos (by omega),he,wrapB _ (by omega) (by omega)];simp only [Int.natCast_emod,Int.natCast_ediv,Int.natCast_add,Int.natCast_one]
  rfl
theorem zZf (x n m : Nat) (hn : n < 4294967296) (hm : m < 4294967296) (hl : (toB x).length ≤ 1048576) : Ev (fun k => b_times.f k (toB x) (n : Int) (m : Int)) (toB (x * n + m)) := by
 have h := zKZ (toB x) n hn hl (zXD x) (toB x).length 0 [] m (by omega) rfl (fun y hy => by cases hy) hm;rw [List.drop_zero,zXT,Nat.pow_zero,Nat.one_mul] at h;(have e : valB [] + (x * n + m) = x * n + m := by simp [valB]);rw [e] at h;refine Ev.congr (fun k => ?_) h;unfold b_times.f;rw [wrapB _ (by omega) (by omega),if_pos (by omega),if_pos (by omega),u64_in m (by omega)]
 rfl
theorem zZF : ∀ (L x : Nat),x < 4294967296 ^ L → (toB x).length ≤ L
 | 0,x,h => by
  have : x = 0 := by rw [Nat.pow_zero] at h;omega
  rw [this,zXx];exact Nat.le_refl _
 | L + 1,x,h => by
  by_cases h0 : x = 0
  ·rw [h0,zXx];exact Nat.zero_le _
  ·rw [zYA h0,List.length_cons]
   have : x / 4294967296 < 4294967296 ^ L := by
    rw [Nat.pow_succ] at h;exact Nat.div_lt_of_lt_mul (by rw [Nat.mul_comm];exact h)
   have := zZF L _ this;omega
theorem tens1 (n : Nat) (hn : n ≤ 1048576) (L : Nat) (hL : L ≤ 1048576) : ∀ (d j x : Nat),j + d = n → x * 10 ^ d < 4294967296 ^ L → Ev (fun k => b_tens.l1 k (toB x) (n : Int) (j : Int)) (toB (x * 10 ^ d))
 | 0,j,x,hj,hx => by
  rw [Nat.pow_zero,Nat.mul_one];refine Ev.step (f := fun k => some (toB x)) (fun k => ?_) (Ev.now _);rw [b_tens.l1,if_neg (by omega)]
 | d + 1,j,x,hj,hx => by
  (have h1 : x * 10 * 10 ^ d = x * 10 ^ (d + 1) := by rw [Nat.pow_succ,Nat.mul_assoc,Nat.mul_comm 10]);have hxl : x < 4294967296 ^ L := Nat.lt_of_le_of_lt (Nat.le_mul_of_pos_right _ (Nat.pow_pos (by decide))) hx;have ih := tens1 n hn L hL d (j + 1) (x * 10) (by omega) (by rw [h1];exact hx);rw [h1] at ih;have ht := zZf x 10 0 (by decide) (by decide) (Nat.le_trans (zZF L x hxl) hL);rw [Nat.add_zero] at ht;have hb : Ev (fun k => (b_times.f k (toB x) 10 0).bind fun t => b_tens.l1 k t (n : Int) ((j + 1 : Nat) : Int)) (toB (x * 10 ^ (d + 1))) := Ev.bind ht ih;refine Ev.step (fun k => ?_) hb;rw [b_tens.l1,if_pos (by omega),wrapB _ (by omega) (by omega)]
  rfl
theorem tens0 (L : Nat) (hL : L ≤ 1048576) : ∀ (n x : Nat),n ≤ 1048576 → x * 10 ^ n < 4294967296 ^ L → Ev (fun k => b_tens.l0 k (toB x) (n : Int)) (toB (x * 10 ^ n)) := by
 intro n
 induction n using Nat.strongRecOn with
 | _ n ih =>
  intro x hn hx;by_cases h9 : 9 ≤ n
  ·obtain ⟨m,rfl⟩ := Nat.exists_eq_add_of_le h9;(have h1 : x * 1000000000 * 10 ^ m = x * 10 ^ (9 + m) := by rw [Nat.pow_add,← Nat.mul_assoc]);have hxl : x < 4294967296 ^ L := Nat.lt_of_le_of_lt (Nat.le_mul_of_pos_right _ (Nat.pow_pos (by decide))) hx;have g := ih m (by omega) (x * 1000000000) (by omega) (by rw [h1];exact hx);rw [h1] at g;have ht := zZf x 1000000000 0 (by decide) (by decide) (Nat.le_trans (zZF L x hxl) hL);rw [Nat.add_zero] at ht;have hb : Ev (fun k => (b_times.f k (toB x) 1000000000 0).bind fun t => b_tens.l0 k t (m : Int)) (toB (x * 10 ^ (9 + m))) := Ev.bind ht g;refine Ev.step (fun k => ?_) hb;rw [b_tens.l0,if_pos (by omega),wrapB _ (by omega) (by omega),show (((9 + m : Nat) : Int) - 9) = (m : Int) by omega]
  ·have g := tens1 n hn L hL n 0 x (by omega) hx;refine Ev.step (fun k => ?_) g;rw [b_tens.l0,if_neg (by omega)]
   rfl
theorem bitLen_spec : ∀ (x : Nat),x ≠ 0 → x < 2 ^ 64 → 1 ≤ Lib.bitLen x ∧ 2 ^ (Lib.bitLen x - 1) ≤ x ∧ x < 2 ^ (Lib.bitLen x) := by
 intro x
 induction x using Nat.strongRecOn with
 | _ x ih =>
  intro h0 h;rw [Lib.bitLen_half x h0 h];by_cases h1 : x / 2 = 0
  ·obtain rfl : x = 1 := by omega
   decide
  ·obtain ⟨c,a,b⟩ := ih (x / 2) (by omega) h1 (by omega);obtain ⟨n,hn⟩ : ∃ n,Lib.bitLen (x / 2) = n + 1 := ⟨_,(Nat.sub_add_cancel c).symm⟩;rw [hn] at a b ⊢;rw [Nat.add_sub_cancel] at a;refine ⟨by omega,?_,?_⟩
   ·rw [show 1 + (n + 1) - 1 = n + 1 by omega,Nat.pow_succ];omega
   ·rw [show 1 + (n + 1) = (n + 1) + 1 by omega,Nat.pow_succ 2 (n + 1)];omega
def LenIs (x L : Nat) : Prop := (x = 0 → L = 0) ∧ (x ≠ 0 → 1 ≤ L ∧ 2 ^ (L - 1) ≤ x ∧ x < 2 ^ L)
theorem zBy {x L : Nat} (h : LenIs x L) : x < 2 ^ L := by
 by_cases h0 : x = 0
 ·rw [h0];exact Nat.two_pow_pos _
 ·exact (h.2 h0).2.2
theorem zYU (n : Nat) : (4294967296 : Nat) ^ n = 2 ^ (32 * n) := by rw [Nat.pow_mul]
theorem zHq (n : Nat) : 0 < (4294967296 : Nat) ^ n := Nat.pow_pos (by decide)
theorem zGI {x : Nat} (h : x ≠ 0) : ∃ (m : List Int) (a : Nat),toB x = m ++ [(a : Int)] ∧ 0 < a ∧ a < 4294967296 := by
 induction x using Nat.strongRecOn with
 | _ x ih =>
  rw [zYA h];by_cases h1 : x / 4294967296 = 0
  ·rw [h1,zXx];exact ⟨[],x % 4294967296,rfl,by omega,by omega⟩
  ·obtain ⟨m,a,e,h2,h3⟩ := ih (x / 4294967296) (by omega) h1;exact ⟨_ :: m,a,by rw [e];rfl,h2,h3⟩
theorem zWZ {x : Nat} (h : x ≠ 0) : ∃ (m : List Int) (a : Nat),toB x = m ++ [(a : Int)] ∧ 0 < a ∧ a < 4294967296 ∧ x = valB m + 4294967296 ^ m.length * a ∧ valB m < 4294967296 ^ m.length := by
 obtain ⟨m,a,e,h1,h2⟩ := zGI h;refine ⟨m,a,e,h1,h2,?_,?_⟩
 ·have := zXT x;rw [e,val_append] at this;rw [← this];simp [valB]
 ·have hp := zXD x;rw [e] at hp;exact zWW fun y hy => hp y (List.mem_append_left _ hy)
theorem zWj (x : Nat) (hl : (toB x).length ≤ 1048576) : ∃ L : Nat,b_len.f (toB x) = some (L : Int) ∧ LenIs x L ∧ L ≤ 32 * (toB x).length := by
 by_cases h0 : x = 0
 ·subst h0;refine ⟨0,?_,⟨fun _ => rfl,fun h => absurd rfl h⟩,by omega⟩;rw [zXx]
  rfl
 ·obtain ⟨m,a,e,h1,h2,hx,hm⟩ := zWZ h0;obtain ⟨b1,b2,b3⟩ := bitLen_spec a (by omega) (by omega);have b4 := Lib.bitLen_le a 32 (by omega) (by omega);refine ⟨32 * m.length + Lib.bitLen a,?_,⟨fun h => absurd h h0,fun _ => ⟨by omega,?_,?_⟩⟩,?_⟩
  ·(have hlen : (((toB x).length : Nat) : Int) = (m.length : Int) + 1 := by rw [e,List.length_append,List.length_singleton];omega);(have hml : m.length < 1048576 := by rw [e,List.length_append,List.length_singleton] at hl;omega);unfold b_len.f;rw [hlen,if_neg (by omega),wrapB _ (by omega) (by omega),if_pos (by omega),if_pos (by omega),show ((m.length : Int) + 1 - 1) = (m.length : Int) by omega,e,zJS];unfold bits_Len32.f;rw [if_pos (by omega),Option.bind_some,Int.toNat_natCast,wrapB (32 * _) (by omega) (by omega),wrapB _ (by omega) (by omega)]
   congr 1
  ·rw [show 32 * m.length + Lib.bitLen a - 1 = 32 * m.length + (Lib.bitLen a - 1) by omega,Nat.pow_add,← zYU];have := Nat.mul_le_mul_left (4294967296 ^ m.length) b2;omega
  ·rw [Nat.pow_add,← zYU];have := Nat.mul_le_mul_left (4294967296 ^ m.length) b3;rw [Nat.mul_succ] at this;omega
  ·rw [e,List.length_append,List.length_singleton];omega
theorem zKY {x y : Nat} (h : (toB x).length < (toB y).length) : x < y := by
 have h1 : x < 4294967296 ^ (toB x).length := by
  have := zWW (zXD x)
  rwa [zXT] at this
 (have hy : y ≠ 0 := by intro h0;rw [h0,zXx] at h;exact absurd h (Nat.not_lt_zero _));obtain ⟨m,a,e,h2,h3,h4,h5⟩ := zWZ hy;rw [e,List.length_append,List.length_singleton] at h;have h6 : 4294967296 ^ (toB x).length ≤ 4294967296 ^ m.length := Nat.pow_le_pow_right (by decide) (by omega);have h7 : 4294967296 ^ m.length * 1 ≤ 4294967296 ^ m.length * a := Nat.mul_le_mul_left _ h2;omega
theorem zWI {x y : Nat} (h : x ≤ y) : (toB x).length ≤ (toB y).length := by
 apply Nat.le_of_not_lt;intro hlt;have := zKY hlt;omega
theorem zBi {l : List Int} {i : Nat} (h : i < l.length) : valB (l.take (i + 1)) = valB (l.take i) + 4294967296 ^ i * (l.getD i 0).toNat := by
 rw [List.take_succ_eq_append_getElem h,val_append,List.length_take,Nat.min_eq_left (Nat.le_of_lt h),List.getD_eq_getElem?_getD,List.getElem?_eq_getElem h];simp [valB]
theorem zKc {l : List Int} (hp : Parts l) {i : Nat} (h : i ≤ l.length) : valB (l.take i) < 4294967296 ^ i := by
 have := zWW (l := l.take i) (fun x hx => hp x (List.mem_of_mem_take hx))
 rwa [List.length_take,Nat.min_eq_left h] at this
theorem getD_in {l : List Int} (hp : Parts l) {i : Nat} (h : i < l.length) : ∃ a : Nat,l.getD i 0 = (a : Int) ∧ a < 4294967296 := by
 have := hp (l.getD i 0) (by rw [List.getD_eq_getElem?_getD,List.getElem?_eq_getElem h];exact List.getElem_mem h);exact ⟨(l.getD i 0).toNat,by omega,by omega⟩
theorem zYa (l : List Int) (i : Nat) : rd l (i : Int) = l.getD i 0 := by unfold rd;rw [Int.toNat_natCast]
theorem zBK (l m : List Int) (hp : Parts l) (hm : Parts m) (hlen : l.length = m.length) (hb : l.length ≤ 1048576) : ∀ i,i ≤ l.length →
  ∃ c : Int,Ev (fun k => b_cmp.l0 k l m ((i : Int) - 1)) c ∧ (c < 0 ↔ valB (l.take i) < valB (m.take i)) ∧ (c = 0 ↔ valB (l.take i) = valB (m.take i))
 | 0,_ => by
  refine ⟨0,Ev.step (f := fun _ => some 0) (fun k => ?_) (Ev.now _),by simp [valB],by simp [valB]⟩;rw [b_cmp.l0,if_neg (by omega)]
 | i + 1,hi => by
  obtain ⟨a,ha,ha2⟩ := getD_in hp (i := i) (by omega);obtain ⟨b,hb',hb2⟩ := getD_in hm (i := i) (by omega);(have ha3 : (l.getD i 0).toNat = a := by rw [ha];rfl);(have hb3 : (m.getD i 0).toNat = b := by rw [hb'];rfl);have e1 := zBi (l := l) (i := i) (by omega);have e2 := zBi (l := m) (i := i) (by omega);have t1 := zKc hp (i := i) (by omega);have t2 := zKc hm (i := i) (by omega);rw [ha3] at e1;rw [hb3] at e2;(have hk : ((i + 1 : Nat) : Int) - 1 = (i : Int) := by omega);rw [hk,e1,e2];obtain ⟨P,hP⟩ : ∃ P,P = 4294967296 ^ i := ⟨_,rfl⟩;rw [← hP] at t1 t2 ⊢;by_cases hab : a = b
  ·obtain ⟨c,hc,c1,c2⟩ := zBK l m hp hm hlen hb i (by omega);refine ⟨c,Ev.step (fun k => ?_) hc,?_,?_⟩
   ·rw [b_cmp.l0,if_pos (by omega),if_pos (by omega),if_pos (by omega),if_pos (by omega),zYa,zYa,if_pos (by rw [ha,hb',hab]),wrapB _ (by omega) (by omega)]
   ·rw [c1,hab];omega
   ·rw [c2,hab];omega
  ·by_cases hlt : a < b
   ·refine ⟨-1,Ev.step (f := fun _ => some (-1)) (fun k => ?_) (Ev.now _),?_,?_⟩
    ·rw [b_cmp.l0,if_pos (by omega),if_pos (by omega),if_pos (by omega),if_pos (by omega),zYa,zYa,if_neg (by rw [ha,hb'];omega),if_pos (by rw [ha,hb'];omega)]
    ·have : P * (a + 1) ≤ P * b := Nat.mul_le_mul_left _ hlt;rw [Nat.mul_succ] at this;omega
    ·have : P * (a + 1) ≤ P * b := Nat.mul_le_mul_left _ hlt;rw [Nat.mul_succ] at this;omega
   ·(have hlt' : b < a := by omega);refine ⟨1,Ev.step (f := fun _ => some 1) (fun k => ?_) (Ev.now _),?_,?_⟩
    ·rw [b_cmp.l0,if_pos (by omega),if_pos (by omega),if_pos (by omega),if_pos (by omega),zYa,zYa,if_neg (by rw [ha,hb'];omega),if_neg (by rw [ha,hb'];omega)]
    ·have : P * (b + 1) ≤ P * a := Nat.mul_le_mul_left _ hlt';rw [Nat.mul_succ] at this;omega
    ·have : P * (b + 1) ≤ P * a := Nat.mul_le_mul_left _ hlt';rw [Nat.mul_succ] at this;omega
theorem zWq (x y : Nat) (hx : (toB x).length ≤ 1048576) (hy : (toB y).length ≤ 1048576) : ∃ c : Int,Ev (fun k => b_cmp.f k (toB x) (toB y)) c ∧ (c < 0 ↔ x < y) ∧ (c = 0 ↔ x = y) := by
 by_cases h : (toB x).length = (toB y).length
 ·obtain ⟨c,hc,c1,c2⟩ := zBK (toB x) (toB y) (zXD x) (zXD y) h hx (toB x).length (Nat.le_refl _);rw [List.take_length,h,List.take_length,zXT,zXT] at c1 c2;refine ⟨c,Ev.congr (fun k => ?_) hc,c1,c2⟩;unfold b_cmp.f;rw [if_pos (by rw [h]),wrapB _ (by omega) (by omega)]
 ·refine ⟨((toB x).length : Int) - ((toB y).length : Int),Ev.congr (f := fun _ => some (((toB x).length : Int) - ((toB y).length : Int))) (fun k => ?_) (Ev.now _),?_,?_⟩
  ·unfold b_cmp.f;rw [if_neg (by omega),wrapB _ (by omega) (by omega)]
  ·constructor
   ·intro hc;exact zKY (by omega)
   ·intro hxy;have := zWI (Nat.le_of_lt hxy);omega
  ·constructor
   ·intro hc;omega
   ·intro hxy;rw [hxy] at h;exact absurd rfl h
theorem zJa {x : Nat} (h : x ≠ 0) : ∀ q,toB (x * 4294967296 ^ q) = List.replicate q 0 ++ toB x
 | 0 => by rw [Nat.pow_zero,Nat.mul_one];rfl
 | q + 1 => by
  have h1 : x * 4294967296 ^ q ≠ 0 := Nat.mul_ne_zero h (Nat.ne_of_gt (zHq q));(have h2 : x * 4294967296 ^ (q + 1) = x * 4294967296 ^ q * 4294967296 := by rw [Nat.pow_succ,Nat.mul_assoc]);rw [h2,zYA (Nat.mul_ne_zero h1 (by decide)),Nat.mul_mod_left,Nat.mul_div_cancel _ (by decide),zJa h q]
  rfl
theorem zHY (n : Nat) (h : n < 32) : shl .u32 1 (n : Int) = ((2 ^ n : Nat) : Int) := by
 unfold shl;rw [Int.toNat_natCast,show IntKind.u32.bits = 32 from rfl,Nat.min_eq_left (Nat.le_of_lt h),Int.one_mul];have : (2 : Nat) ^ n < 2 ^ 32 := Nat.pow_lt_pow_right (by decide) h;(have e : ((2 : Int) ^ n) = ((2 ^ n : Nat) : Int) := by push_cast;rfl);rw [e];generalize (2 : Nat) ^ n = z at this;unfold IntKind.wrap;simp [IntKind.bits,IntKind.signed];omega
theorem up_ev (x n : Nat) (h : x ≠ 0 ∨ n < 32) (hl : (toB x).length + n / 32 ≤ 1048000) : Ev (fun k => b_up.f k (toB x) (n : Int)) (toB (x * 2 ^ n)) := by
 (have hq : Int.tdiv (n : Int) 32 = ((n / 32 : Nat) : Int) := by rw [Int.tdiv_eq_ediv_of_nonneg (by omega)];omega);(have hr : Int.tmod (n : Int) 32 = ((n % 32 : Nat) : Int) := by rw [Int.tmod_eq_emod_of_nonneg (by omega)];omega);have hlt : 2 ^ (n % 32) < 4294967296 := Nat.lt_of_lt_of_le (Nat.pow_lt_pow_right (by decide) (Nat.mod_lt n (by decide : 0 < 32))) (Nat.le_refl _);have ht := zZf x (2 ^ (n % 32)) 0 hlt (by decide) (by omega);rw [Nat.add_zero] at ht
 have hx2 : x * 2 ^ n = x * 2 ^ (n % 32) * 4294967296 ^ (n / 32) := by
  rw [zYU,Nat.mul_assoc,← Nat.pow_add]
  congr 2
  omega
 have hlen2 : (toB (x * 2 ^ (n % 32))).length ≤ (toB x).length + 1 := by
  refine zZF _ _ ?_
  have h1 : x < 4294967296 ^ (toB x).length := by
   have := zWW (zXD x)
   rwa [zXT] at this
  rw [Nat.pow_succ];exact Nat.mul_lt_mul_of_lt_of_lt h1 hlt
 have hres : toB (x * 2 ^ n) = List.replicate (n / 32) 0 ++ toB (x * 2 ^ (n % 32)) := by
  rw [hx2];by_cases h0 : x = 0
  ·subst h0;(have : n / 32 = 0 := by omega);rw [this,Nat.zero_mul,Nat.zero_mul,zXx]
   rfl
  ·exact zJa (Nat.mul_ne_zero h0 (Nat.ne_of_gt (Nat.two_pow_pos _))) _
 rw [hres];have hb : Ev (fun k => (b_times.f k (toB x) ((2 ^ (n % 32) : Nat) : Int) 0).bind fun t => some (List.replicate (n / 32) 0 ++ t)) (List.replicate (n / 32) 0 ++ toB (x * 2 ^ (n % 32))) := Ev.bind ht (Ev.now _);refine Ev.congr (fun k => ?_) hb;unfold b_up.f
 rw [hq,hr,wrapB ((n / 32 : Nat) : Int) (by omega) (by omega),wrapB (((n / 32 : Nat) : Int) + ((toB x).length : Int)) (by omega) (by omega),wrapB _ (by omega) (by omega),if_pos (by omega),if_pos (by omega),if_pos (by omega),Option.bind_some,Int.toNat_natCast,if_pos (by rw [List.length_replicate];omega),Option.bind_some,if_pos (by rw [List.length_append,List.length_replicate];omega),if_pos (by omega),zHY _ (Nat.mod_lt _ (by decide)),
  List.drop_left' (List.length_replicate ..),List.take_left' (List.length_replicate ..)]
 cases hk : b_times.f k (toB x) ((2 ^ (n % 32) : Nat) : Int) 0 with
 | none => rfl
 | some t =>
  rw [Option.bind_some,Option.bind_some]
  have hk2 : t = toB (x * 2 ^ (n % 32)) := by
   obtain ⟨K,hK⟩ := ht;have h1 := hK (max K k) (Nat.le_max_left ..)
   have h2 : b_times.f (max K k) (toB x) ((2 ^ (n % 32) : Nat) : Int) 0 = some t := by
    have : ∀ d,b_times.f (k + d) (toB x) ((2 ^ (n % 32) : Nat) : Int) 0 = some t := by
     intro d
     induction d with
     | zero => exact hk
     | succ d ih => exact b_times.mono _ _ _ _ _ ih
    have h3 := this (max K k - k)
    rwa [show k + (max K k - k) = max K k by omega] at h3
   have h3 : b_times.f (max K k) (toB x) ((2 ^ (n % 32) : Nat) : Int) 0 = some (toB (x * 2 ^ (n % 32))) := h1;exact Option.some.inj (h2.symm.trans h3)
  unfold slices_Concat.f;rw [if_pos (by simp [List.flatten];rw [hk2];omega)];simp [List.flatten]
theorem u64_neg (z : Int) (h : -9223372036854775808 ≤ z) (h1 : z < 0) : IntKind.u64.wrap z = z + 18446744073709551616 := by
 unfold IntKind.wrap;simp [IntKind.bits,IntKind.signed];omega
theorem zZe (l : List Int) (i : Nat) (hp : Parts l) : ∃ b : Nat,b < 4294967296 ∧ valB (l.drop i) = b + 4294967296 * valB (l.drop (i + 1)) ∧ (i < l.length → rd l (i : Int) = (b : Int)) ∧ (l.length ≤ i → b = 0) := by
 by_cases h : i < l.length
 ·obtain ⟨b,hb,hb2⟩ := getD_in hp h;refine ⟨b,hb2,?_,fun _ => by rw [zYa,hb],fun h2 => by omega⟩;rw [zBj h,hb,Int.toNat_natCast]
 ·rw [List.drop_eq_nil_of_le (by omega),List.drop_eq_nil_of_le (by omega)];exact ⟨0,by decide,rfl,fun h2 => absurd h2 h,fun _ => rfl⟩
theorem zWi (l m : List Int) (hp : Parts l) (hm : Parts m) (hl : l.length ≤ 1048576) (hml : m.length ≤ 1048576) : ∀ (d i : Nat) (acc : List Int) (c : Nat),i + d = l.length → acc.length = i → Parts acc → c ≤ 1 → valB (m.drop i) + c ≤ valB (l.drop i) →
  Ev (fun k => b_minus.l0 k m acc (c : Int) l (l.length : Int) (i : Int)) (toB (valB acc + 4294967296 ^ i * (valB (l.drop i) - valB (m.drop i) - c)))
 | 0,i,acc,c,hi,ha,hpa,hc,hle => by
  have hd : l.drop i = [] := List.drop_eq_nil_of_le (by omega);rw [hd] at hle ⊢;(have e : valB ([] : List Int) - valB (m.drop i) - c = 0 := by simp [valB]);rw [e,Nat.mul_zero,Nat.add_zero];have ht := zKe acc.length acc rfl hpa (by omega);have hb : Ev (fun k => (b_trim.f k acc).bind fun t => some t) (toB (valB acc)) := Ev.bind ht (Ev.now _);refine Ev.step (fun k => ?_) hb;rw [b_minus.l0,if_neg (by omega)]
 | d + 1,i,acc,c,hi,ha,hpa,hc,hle => by
  obtain ⟨a,ha2,hL,hra,_⟩ := zZe l i hp;obtain ⟨b,hb2,hM,hrb,hb0⟩ := zZe m i hm;have hra := hra (by omega);obtain ⟨L,hLe⟩ : ∃ L,L = valB (l.drop (i + 1)) := ⟨_,rfl⟩;obtain ⟨M,hMe⟩ : ∃ M,M = valB (m.drop (i + 1)) := ⟨_,rfl⟩;rw [hL,hM,← hLe,← hMe] at hle ⊢
  obtain ⟨e,c',he,hc',hwe,hwc⟩ : ∃ e c' : Nat,(e + b + c = a + 4294967296 * c' ∧ e < 4294967296) ∧ c' ≤ 1 ∧ (IntKind.u64.wrap ((a : Int) - ((c : Int) + (b : Int)))) % 4294967296 = (e : Int) ∧ (IntKind.u64.wrap ((a : Int) - ((c : Int) + (b : Int)))) / 9223372036854775808 = (c' : Int) := by
   by_cases h : b + c ≤ a
   ·refine ⟨a - b - c,0,⟨by omega,by omega⟩,by omega,?_,?_⟩
    ·rw [show ((a : Int) - ((c : Int) + (b : Int))) = ((a - b - c : Nat) : Int) by omega,u64_in _ (by omega)];omega
    ·rw [show ((a : Int) - ((c : Int) + (b : Int))) = ((a - b - c : Nat) : Int) by omega,u64_in _ (by omega)];omega
   ·refine ⟨a + 4294967296 - b - c,1,⟨by omega,by omega⟩,by omega,?_,?_⟩
    ·rw [u64_neg _ (by omega) (by omega)];omega
    ·rw [u64_neg _ (by omega) (by omega)];omega
  (have hle2 : M + c' ≤ L := by omega);have ih := zWi l m hp hm hl hml d (i + 1) (acc ++ [(e : Int)]) c' (by omega) (by rw [List.length_append,List.length_singleton];omega) (zYb hpa (fun y hy => by rw [List.mem_singleton.1 hy];omega)) hc' (by rw [← hLe,← hMe];exact hle2);rw [← hLe,← hMe] at ih
  have hv : valB acc + 4294967296 ^ i * (a + 4294967296 * L - (b + 4294967296 * M) - c) = valB (acc ++ [(e : Int)]) + 4294967296 ^ (i + 1) * (L - M - c') := by
   rw [val_append,ha,Nat.pow_succ,Nat.mul_assoc,Nat.add_assoc,← Nat.mul_add];simp only [valB,Nat.mul_zero,Nat.add_zero,Int.toNat_natCast]
   congr 2
   omega
  rw [hv];refine Ev.step (fun k => ?_) ih;by_cases hi2 : i < m.length
  ·have hrb := hrb hi2;rw [b_minus.l0,if_pos (by omega),if_pos (by omega),if_pos (by omega),if_pos (by omega),if_pos (by omega),hra,hrb,u64_in a (by omega),u64_in b (by omega),show ((c : Int) + (b : Int)) = ((c + b : Nat) : Int) by push_cast;rfl,u64_in (c + b) (by omega),show ((c + b : Nat) : Int) = ((c : Int) + (b : Int)) by push_cast;rfl,hwe,hwc,wrapB _ (by omega) (by omega)]
   rfl
  ·have hb0 := hb0 (by omega);subst hb0;rw [show ((c : Int) + ((0 : Nat) : Int)) = (c : Int) by omega] at hwe hwc;rw [b_minus.l0,if_pos (by omega),if_pos (by omega),if_pos (by omega),if_neg (by omega),if_pos (by omega),hra,u64_in a (by omega),hwe,hwc,wrapB _ (by omega) (by omega)]
   rfl
theorem zBx (x y : Nat) (h : y ≤ x) (hl : (toB x).length ≤ 1048576) : Ev (fun k => b_minus.f k (toB x) (toB y)) (toB (x - y)) := by
 have hy := zWI h;have g := zWi (toB x) (toB y) (zXD x) (zXD y) hl (by omega) (toB x).length 0 [] 0 (by omega) rfl (fun y hy => by cases hy) (by omega) (by rw [List.drop_zero,List.drop_zero,zXT,zXT];omega);rw [List.drop_zero,List.drop_zero,zXT,zXT,Nat.pow_zero,Nat.one_mul] at g;(have e : valB [] + (x - y - 0) = x - y := by simp [valB]);rw [e] at g;refine Ev.congr (fun k => ?_) g;unfold b_minus.f;rw [if_pos (by omega),if_pos (by omega)]
 rfl
theorem zJq (l m : List Int) (hp : Parts l) (hm : Parts m) (hl : l.length ≤ 1048576) (hml : m.length ≤ l.length) : ∀ (d i : Nat) (acc : List Int) (c : Nat),i + d = l.length → acc.length = i → Parts acc → c ≤ 1 →
  Ev (fun k => b_plus.l0 k m acc (c : Int) l (l.length : Int) (i : Int)) (toB (valB acc + 4294967296 ^ i * (valB (l.drop i) + valB (m.drop i) + c)))
 | 0,i,acc,c,hi,ha,hpa,hc => by
  have hd : l.drop i = [] := List.drop_eq_nil_of_le (by omega);have hd2 : m.drop i = [] := List.drop_eq_nil_of_le (by omega)
  have hv : valB acc + 4294967296 ^ i * (valB (l.drop i) + valB (m.drop i) + c) = valB (acc ++ [(c : Int) % 4294967296]) := by
   rw [hd,hd2,val_append,ha];simp only [valB,Nat.zero_add,Nat.mul_zero,Nat.add_zero]
   congr 2
   omega
  rw [hv];have ht := zKe (acc ++ [(c : Int) % 4294967296]).length (acc ++ [(c : Int) % 4294967296]) rfl (zYb hpa (fun x hx => by rw [List.mem_singleton.1 hx];omega)) (by rw [List.length_append,List.length_singleton];omega);have hb : Ev (fun k => (b_trim.f k (acc ++ [(c : Int) % 4294967296])).bind fun t => some t) (toB (valB (acc ++ [(c : Int) % 4294967296]))) := Ev.bind ht (Ev.now _);refine Ev.step (fun k => ?_) hb;rw [b_plus.l0,if_neg (by omega),if_pos (by omega)]
 | d + 1,i,acc,c,hi,ha,hpa,hc => by
  obtain ⟨a,ha2,hL,hra,_⟩ := zZe l i hp;obtain ⟨b,hb2,hM,hrb,hb0⟩ := zZe m i hm;have hra := hra (by omega);have ih := zJq l m hp hm hl hml d (i + 1) (acc ++ [(((c + a + b) % 4294967296 : Nat) : Int)]) ((c + a + b) / 4294967296) (by omega) (by rw [List.length_append,List.length_singleton];omega) (zYb hpa (fun y hy => by rw [List.mem_singleton.1 hy];omega)) (by omega)
  have hv : valB acc + 4294967296 ^ i * (valB (l.drop i) + valB (m.drop i) + c) = valB (acc ++ [(((c + a + b) % 4294967296 : Nat) : Int)]) + 4294967296 ^ (i + 1) * (valB (l.drop (i + 1)) + valB (m.drop (i + 1)) + (c + a + b) / 4294967296) := by
   rw [val_append,ha,hL,hM,Nat.pow_succ,Nat.mul_assoc,Nat.add_assoc (valB acc),← Nat.mul_add];simp only [valB,Nat.mul_zero,Nat.add_zero,Int.toNat_natCast]
   congr 2
   omega
  rw [hv];refine Ev.step (fun k => ?_) ih;by_cases hi2 : i < m.length
  ·have hrb := hrb hi2;rw [b_plus.l0,if_pos (by omega),if_pos (by omega),if_pos (by omega),if_pos (by omega),if_pos (by omega),hra,hrb,u64_in a (by omega),u64_in b (by omega),show ((c : Int) + (a : Int)) = ((c + a : Nat) : Int) by push_cast;rfl,u64_in (c + a) (by omega),show (((c + a : Nat) : Int) + (b : Int)) = ((c + a + b : Nat) : Int) by push_cast;rfl,u64_in (c + a + b) (by omega),wrapB _ (by omega) (by omega)];simp only [Int.natCast_emod,Int.natCast_ediv,Int.natCast_add,Int.natCast_one]
   rfl
  ·have hb0 := hb0 (by omega);subst hb0;rw [Nat.add_zero];rw [b_plus.l0,if_pos (by omega),if_pos (by omega),if_pos (by omega),if_neg (by omega),if_pos (by omega),hra,u64_in a (by omega),show ((c : Int) + (a : Int)) = ((c + a : Nat) : Int) by push_cast;rfl,u64_in (c + a) (by omega),wrapB _ (by omega) (by omega)];simp only [Int.natCast_emod,Int.natCast_ediv,Int.natCast_add,Int.natCast_one]
   rfl
theorem zHC (x y : Nat) (h : (toB y).length ≤ (toB x).length) (hl : (toB x).length ≤ 1048576) : Ev (fun k => b_plus.fg k (toB x) (toB y)) (toB (x + y)) := by
 have g := zJq (toB x) (toB y) (zXD x) (zXD y) hl h (toB x).length 0 [] 0 (by omega) rfl (fun y hy => by cases hy) (by omega);rw [List.drop_zero,List.drop_zero,zXT,zXT,Nat.pow_zero,Nat.one_mul] at g;(have e : valB [] + (x + y + 0) = x + y := by simp [valB]);rw [e] at g;refine Ev.congr (fun k => ?_) g;unfold b_plus.fg;rw [wrapB _ (by omega) (by omega),if_pos (by omega),if_pos (by omega)]
 rfl
theorem zFd (x y : Nat) (hx : (toB x).length ≤ 1048576) (hy : (toB y).length ≤ 1048576) : Ev (fun k => b_plus.f k (toB x) (toB y)) (toB (x + y)) := by
 unfold b_plus.f;by_cases h : ((toB x).length : Int) < ((toB y).length : Int)
 ·simp only [if_pos h];rw [Nat.add_comm];exact zHC y x (by omega) hy
 ·simp only [if_neg h];exact zHC x y (by omega) hx
theorem zYl (a b : Nat) (ha : a < 18446744073709551616) (hb : b < 18446744073709551616) : Go.bits .or .u64 (a : Int) (b : Int) = ((a ||| b : Nat) : Int) := by
 (have hlt : a ||| b < 2 ^ 64 := Nat.or_lt_two_pow ha hb);unfold Go.bits;rw [show IntKind.u64.bits = 64 from rfl];simp only [BitVec.toNat_or];(have e2 : (BitVec.ofInt 64 (a : Int)).toNat = a := by rw [BitVec.ofInt_natCast,BitVec.toNat_ofNat,Nat.mod_eq_of_lt ha]);(have e3 : (BitVec.ofInt 64 (b : Int)).toNat = b := by rw [BitVec.ofInt_natCast,BitVec.toNat_ofNat,Nat.mod_eq_of_lt hb]);rw [e2,e3];exact u64_in _ hlt
theorem zYo (a b : Nat) (ha : a < 18446744073709551616) (hb : b < 18446744073709551616) : Go.bits .and .u64 (a : Int) (b : Int) = ((a &&& b : Nat) : Int) := by
 have hlt : a &&& b < 2 ^ 64 := Nat.and_lt_two_pow _ hb;unfold Go.bits;rw [show IntKind.u64.bits = 64 from rfl];simp only [BitVec.toNat_and];(have e2 : (BitVec.ofInt 64 (a : Int)).toNat = a := by rw [BitVec.ofInt_natCast,BitVec.toNat_ofNat,Nat.mod_eq_of_lt ha]);(have e3 : (BitVec.ofInt 64 (b : Int)).toNat = b := by rw [BitVec.ofInt_natCast,BitVec.toNat_ofNat,Nat.mod_eq_of_lt hb]);rw [e2,e3];exact u64_in _ hlt
theorem zZA (x n : Nat) (h : n ≤ 64) : shl .u64 (x : Int) (n : Int) = ((x * 2 ^ n % 2 ^ 64 : Nat) : Int) := by
 unfold shl;rw [Int.toNat_natCast,show IntKind.u64.bits = 64 from rfl,Nat.min_eq_left h];(have e : ((x : Int) * (2 : Int) ^ n) = ((x * 2 ^ n : Nat) : Int) := by push_cast;rfl);rw [e];generalize x * 2 ^ n = z;unfold IntKind.wrap;simp [IntKind.bits,IntKind.signed]
theorem zVB (x n : Nat) (h : n ≤ 64) : shr .u64 (x : Int) (n : Int) = ((x / 2 ^ n : Nat) : Int) := by
 unfold shr;rw [Int.toNat_natCast,show IntKind.u64.bits = 64 from rfl,Nat.min_eq_left h]
 push_cast
 rfl
theorem or_bit (t i : Nat) : (2 ^ (i + 1) * t ||| 2 ^ i) = 2 ^ (i + 1) * t + 2 ^ i := by
 rw [Nat.two_pow_add_eq_or_of_lt (by rw [Nat.pow_succ];have := Nat.two_pow_pos i;omega)]
theorem zJJ (r : Nat) : decide (((toB r).length : Int) > 0) = decide (r ≠ 0) := by
 by_cases h : r = 0
 ·subst h;rw [zXx];rfl
 ·rw [zYA h,List.length_cons];rw [decide_eq_true (by omega),decide_eq_true h]
theorem zWR (b : Nat) (hb : b ≠ 0) (hlb : (toB b).length ≤ 500000) : ∀ (i r t : Nat),i ≤ 64 → r < b * 2 ^ i → (toB r).length ≤ 1000000 → 2 ^ i * t < 2 ^ 64 →
  Ev (fun k => b_by.l0 k (toB r) (toB b) ((2 ^ i * t : Nat) : Int) ((i : Int) - 1)) (((2 ^ i * t + r / b : Nat) : Int),decide (r % b ≠ 0))
 | 0,r,t,_,hr,_,_ => by
  rw [Nat.pow_zero,Nat.mul_one] at hr;refine Ev.step (f := fun _ => some (((2 ^ 0 * t + r / b : Nat) : Int),decide (r % b ≠ 0))) (fun k => ?_) (Ev.now _);rw [b_by.l0,if_neg (by omega),zJJ,Nat.div_eq_of_lt hr,Nat.mod_eq_of_lt hr,Nat.add_zero]
 | i + 1,r,t,hi,hr,hlr,ht => by
  obtain ⟨lr,hlr1,hlr2,hlr3⟩ := zWj r (by omega);obtain ⟨lb,hlb1,hlb2,hlb3⟩ := zWj b (by omega);obtain ⟨g1,g2,g3⟩ := hlb2.2 hb;(have hk : ((i + 1 : Nat) : Int) - 1 = (i : Int) := by omega);(have hp2 : 2 ^ (i + 1) * t = 2 ^ i * (2 * t) := by rw [Nat.pow_succ,Nat.mul_assoc]);(have hpow : b * 2 ^ (i + 1) = b * 2 ^ i + b * 2 ^ i := by rw [Nat.pow_succ,← Nat.mul_assoc,Nat.mul_two]);by_cases hskip : lr < lb + i
  ·have hlt : r < b * 2 ^ i := by
    have h1 := zBy hlr2;have h2 : 2 ^ lr ≤ 2 ^ (lb - 1 + i) := Nat.pow_le_pow_right (by decide) (by omega);rw [Nat.pow_add] at h2;have h3 : 2 ^ (lb - 1) * 2 ^ i ≤ b * 2 ^ i := Nat.mul_le_mul_right _ g2;omega
   have ih := zWR b hb hlb i r (2 * t) (by omega) hlt hlr (by rw [← hp2];exact ht);rw [← hp2] at ih;refine Ev.step (fun k => ?_) ih;rw [hk,b_by.l0,if_pos (by omega),hlr1,Option.bind_some,hlb1,Option.bind_some,wrapB _ (by omega) (by omega),if_pos (by omega),wrapB _ (by omega) (by omega)]
  ·have hup := up_ev b i (.inl hb) (by omega)
   have hlu : (toB (b * 2 ^ i)).length ≤ 1000003 := by
    have h1 : b < 4294967296 ^ (toB b).length := by
     have := zWW (zXD b)
     rwa [zXT] at this
    have h2 : (toB (b * 2 ^ i)).length ≤ (toB b).length + 2 := by
     refine zZF _ _ ?_
     rw [Nat.pow_add,zYU 2];refine Nat.mul_lt_mul_of_lt_of_le h1 (Nat.pow_le_pow_right (by decide) (by omega)) (Nat.two_pow_pos _)
    omega
   obtain ⟨c,hc,c1,c2⟩ := zWq r (b * 2 ^ i) (by omega) (by omega);by_cases hge : b * 2 ^ i ≤ r
   ·(have hcge : c ≥ 0 := by omega);have hm := zBx r (b * 2 ^ i) hge (by omega);(have hr' : r - b * 2 ^ i < b * 2 ^ i := by omega);have hor : 2 ^ (i + 1) * t + 2 ^ i = 2 ^ i * (2 * t + 1) := by rw [hp2,Nat.mul_succ]
    have hsum : 2 ^ i * (2 * t + 1) < 2 ^ 64 := by
     obtain ⟨j,hj⟩ : ∃ j,64 = (i + 1) + j := ⟨64 - (i + 1),by omega⟩;have e64 : (2 : Nat) ^ 64 = 2 ^ (i + 1) * 2 ^ j := by rw [← Nat.pow_add,← hj]
     have ht2 : t < 2 ^ j := by
      rw [e64] at ht;exact Nat.lt_of_mul_lt_mul_left ht
     have h5 : 2 ^ (i + 1) * (t + 1) ≤ 2 ^ (i + 1) * 2 ^ j := Nat.mul_le_mul_left _ ht2;rw [Nat.mul_succ,← e64] at h5;have h6 : 2 ^ i < 2 ^ (i + 1) := Nat.pow_lt_pow_right (by decide) (by omega);rw [← hor];omega
    have ih := zWR b hb hlb i (r - b * 2 ^ i) (2 * t + 1) (by omega) hr' (Nat.le_trans (zWI (Nat.sub_le ..)) hlr) hsum
    have hdiv : r / b = 2 ^ i + (r - b * 2 ^ i) / b := by
     (have : r = (r - b * 2 ^ i) + b * 2 ^ i := by omega);have h7 := Nat.add_mul_div_left (r - b * 2 ^ i) (2 ^ i) (Nat.pos_of_ne_zero hb);rw [← this] at h7;omega
    have hmod : r % b = (r - b * 2 ^ i) % b := by
     (have : r = (r - b * 2 ^ i) + b * 2 ^ i := by omega);have h7 := Nat.add_mul_mod_self_left (r - b * 2 ^ i) b (2 ^ i);rw [← this] at h7;exact h7
    (have hres : 2 ^ (i + 1) * t + r / b = 2 ^ i * (2 * t + 1) + (r - b * 2 ^ i) / b := by rw [hdiv,← hor];omega);rw [hres,hmod]
    have hq : Go.bits .or .u64 ((2 ^ (i + 1) * t : Nat) : Int) (shl .u64 1 (i : Int)) = ((2 ^ i * (2 * t + 1) : Nat) : Int) := by
     have h8 : (2 : Nat) ^ i < 2 ^ 64 := Nat.pow_lt_pow_right (by decide) (by omega);have h9 := zZA 1 i (by omega);rw [Nat.one_mul,Nat.mod_eq_of_lt h8] at h9;have h10 : shl .u64 1 (i : Int) = ((2 ^ i : Nat) : Int) := h9;rw [h10,zYl _ _ ht h8,or_bit,hor]
    have hb1 : Ev (fun k => (b_up.f k (toB b) (i : Int)).bind fun u => (b_cmp.f k (toB r) u).bind fun c => if c ≥ 0 then (b_minus.f k (toB r) u).bind fun m => (if (0 : Int) ≤ (i : Int) then b_by.l0 k m (toB b) ((2 ^ i * (2 * t + 1) : Nat) : Int) ((i : Int) - 1) else none) else b_by.l0 k (toB r) (toB b) ((2 ^ (i + 1) * t : Nat) : Int) ((i : Int) - 1)) _ :=
     Ev.bind hup (Ev.bind hc (Ev.congr (fun k => if_pos hcge) (Ev.bind hm (Ev.congr (fun k => if_pos (by omega)) ih))))
    refine Ev.step (fun k => ?_) hb1;rw [hk,b_by.l0,if_pos (by omega),hlr1,Option.bind_some,hlb1,Option.bind_some,wrapB _ (by omega) (by omega),if_neg (by omega),wrapB _ (by omega) (by omega),hq]
   ·(have hlt : r < b * 2 ^ i := by omega);(have hcl : ¬ c ≥ 0 := by omega);have ih := zWR b hb hlb i r (2 * t) (by omega) hlt hlr (by rw [← hp2];exact ht);rw [← hp2] at ih
    have hb1 : Ev (fun k => (b_up.f k (toB b) (i : Int)).bind fun u => (b_cmp.f k (toB r) u).bind fun c => if c ≥ 0 then (b_minus.f k (toB r) u).bind fun m => (if (0 : Int) ≤ (i : Int) then b_by.l0 k m (toB b) (Go.bits .or .u64 ((2 ^ (i + 1) * t : Nat) : Int) (shl .u64 1 (i : Int))) ((i : Int) - 1) else none) else b_by.l0 k (toB r) (toB b) ((2 ^ (i + 1) * t : Nat) : Int) ((i : Int) - 1)) _ :=
     Ev.bind hup (Ev.bind hc (Ev.congr (fun k => if_neg hcl) ih))
    refine Ev.step (fun k => ?_) hb1;rw [hk,b_by.l0,if_pos (by omega),hlr1,Option.bind_some,hlb1,Option.bind_some,wrapB _ (by omega) (by omega),if_neg (by omega),wrapB _ (by omega) (by omega)]
theorem by_ev (a b : Nat) (hb : b ≠ 0) (hlb : (toB b).length ≤ 500000) (hla : (toB a).length ≤ 1000000) (h : a < b * 2 ^ 64) : Ev (fun k => b_by.f k (toB a) (toB b)) (((a / b : Nat) : Int),decide (a % b ≠ 0)) := by
 have g := zWR b hb hlb 64 a 0 (Nat.le_refl _) h hla (by rw [Nat.mul_zero];exact Nat.two_pow_pos _);rw [Nat.mul_zero,Nat.zero_add] at g;refine Ev.congr (fun k => ?_) g
 rfl
end Go.Proofs.YtongfmeediokmaaGreatDoor.Pure
end
section
namespace Go.Proofs.YtongfmeediokmaaGreatDoor.Flo
open Go Ieee
def mid (w : Nat) : Nat := units w + units (w + 1)
def kE : Nat := 1075
def K : Nat := 2 ^ kE
def Above (A B w : Nat) : Prop := w = 0 ∨ mid (w - 1) * B < A * K ∨ (mid (w - 1) * B = A * K ∧ w % 2 = 0)
def Under (A B w : Nat) : Prop := A * K < mid w * B ∨ (A * K = mid w * B ∧ w % 2 = 0)
def zXA (A B w : Nat) : Prop := Above A B w ∧ Under A B w
theorem zYR (w : Nat) : units w < units (w + 1) := zXU (Nat.lt_succ_self w)
theorem zWH {v w : Nat} (h : v < w) : mid v < mid w := by
 unfold mid;have h1 := zXU h;have h2 : units (v + 1) < units (w + 1) := zXU (by omega);omega
theorem zWg {A B A' B' v w : Nat} (hB : 0 < B) (hB' : 0 < B') (h : A * B' ≤ A' * B) (hv : zXA A B v) (hw : zXA A' B' w) : v ≤ w := by
 apply Nat.le_of_not_lt;intro hlt
 have hm : mid w ≤ mid (v - 1) := by
  rcases Nat.lt_or_eq_of_le (show w ≤ v - 1 by omega) with h1 | h1
  ·exact Nat.le_of_lt (zWH h1)
  ·rw [h1];exact Nat.le_refl _
 have ha : mid (v - 1) * B ≤ A * K ∧ (mid (v - 1) * B = A * K → v % 2 = 0) := by
  rcases hv.1 with h1 | h1 | h1
  ·omega
  ·exact ⟨Nat.le_of_lt h1,fun e => by omega⟩
  ·exact ⟨Nat.le_of_eq h1.1,fun _ => h1.2⟩
 have hu : A' * K ≤ mid w * B' ∧ (A' * K = mid w * B' → w % 2 = 0) := by
  rcases hw.2 with h1 | h1
  ·exact ⟨Nat.le_of_lt h1,fun e => by omega⟩
  ·exact ⟨Nat.le_of_eq h1.1,fun _ => h1.2⟩
 have c1 : mid (v - 1) * B * B' ≤ A * K * B' := Nat.mul_le_mul_right _ ha.1
 have c2 : A * K * B' ≤ A' * K * B := by
  have := Nat.mul_le_mul_right K h;rw [Nat.mul_right_comm A K B',Nat.mul_right_comm A' K B];exact this
 have c3 : A' * K * B ≤ mid w * B' * B := Nat.mul_le_mul_right _ hu.1;have c4 : mid w * B' * B ≤ mid (v - 1) * B' * B := Nat.mul_le_mul_right _ (Nat.mul_le_mul_right _ hm)
 have c5 : mid (v - 1) * B' * B = mid (v - 1) * B * B' := Nat.mul_right_comm _ _ _
 (have e1 : mid (v - 1) * B * B' = A * K * B' := by omega);(have e2 : A' * K * B = mid w * B' * B := by omega);(have e3 : mid w * B' * B = mid (v - 1) * B' * B := by omega);have f1 : mid (v - 1) * B = A * K := Nat.eq_of_mul_eq_mul_right hB' e1;have f2 : A' * K = mid w * B' := Nat.eq_of_mul_eq_mul_right hB e2;have f3 : mid w = mid (v - 1) := Nat.eq_of_mul_eq_mul_right hB' (Nat.eq_of_mul_eq_mul_right hB e3);have g1 := ha.2 f1;have g2 := hu.2 f2
 have : w = v - 1 := by
  rcases Nat.lt_trichotomy w (v - 1) with k | k | k
  ·have := zWH k;omega
  ·exact k
  ·have := zWH k;omega
 omega
theorem zKx {A B A' B' v w : Nat} (hB : 0 < B) (hB' : 0 < B') (h : A * B' = A' * B) (hv : zXA A B v) (hw : zXA A' B' w) : v = w :=
 Nat.le_antisymm (zWg hB hB' (Nat.le_of_eq h) hv hw) (zWg hB' hB (Nat.le_of_eq h.symm) hw hv)
theorem zGW (c j : Nat) : (c + 0) * 2 ^ (j + 1) = (c * 2) * 2 ^ j := by rw [Nat.add_zero,Nat.pow_succ,Nat.mul_comm (2 ^ j) 2,Nat.mul_assoc]
theorem zVr {r : Nat} (h : r < 4503599627370496) : units r = r := by unfold units;rw [if_pos h]
theorem zBS {r : Nat} (h : ¬ r < 4503599627370496) : units r = (4503599627370496 + r % 4503599627370496) * 2 ^ (r / 4503599627370496 - 1) := by unfold units;rw [if_neg h]
theorem zXF (j q : Nat) (h1 : q ≤ 9007199254740992) (h2 : j = 0 ∨ 4503599627370496 ≤ q) : units (j * 4503599627370496 + q) = q * 2 ^ j := by
 by_cases hq : q < 4503599627370496
 ·(obtain rfl : j = 0 := by omega);rw [zVr (by omega)];omega
 ·rw [zBS (by omega)];by_cases he : q = 9007199254740992
  ·(have e1 : (j * 4503599627370496 + q) % 4503599627370496 = 0 := by omega);(have e2 : (j * 4503599627370496 + q) / 4503599627370496 - 1 = j + 1 := by omega);(have e3 : 4503599627370496 * 2 = q := by omega);rw [e1,e2,zGW,e3]
  ·(have e1 : 4503599627370496 + (j * 4503599627370496 + q) % 4503599627370496 = q := by omega);(have e2 : (j * 4503599627370496 + q) / 4503599627370496 - 1 = j := by omega);rw [e1,e2]
theorem zVf {A B j q : Nat} (hB : 0 < B) (h1 : q < 9007199254740992) (h2 : j = 0 ∨ 4503599627370496 ≤ q) (lo : 2 * q * (2 ^ j * B) ≤ A * K) (hi : A * K < 2 * (q + 1) * (2 ^ j * B)) :
  zXA A B (j * 4503599627370496 + if (2 * q + 1) * (2 ^ j * B) < A * K ∨ ((2 * q + 1) * (2 ^ j * B) = A * K ∧ q % 2 = 1) then q + 1 else q) := by
 have u0 := zXF j q (by omega) h2;have u1 := zXF j (q + 1) (by omega) (by omega)
 have hmid : mid (j * 4503599627370496 + q) * B = (2 * q + 1) * (2 ^ j * B) := by
  unfold mid;rw [Nat.add_assoc,u0,u1,← Nat.add_mul,← Nat.mul_assoc]
  congr 2
  omega
 have hK : ∃ a,a = A * K := ⟨_,rfl⟩;obtain ⟨a,ha⟩ := hK;obtain ⟨c,hc⟩ : ∃ c,c = 2 ^ j * B := ⟨_,rfl⟩;rw [← ha,← hc] at lo hi;rw [← hc] at hmid;rw [← ha,← hc];(have q0 : units (j * 4503599627370496 + q) * B = q * c := by rw [u0,hc,Nat.mul_assoc]);(have q1 : units (j * 4503599627370496 + (q + 1)) * B = (q + 1) * c := by rw [u1,hc,Nat.mul_assoc]);by_cases hup : (2 * q + 1) * c < a ∨ ((2 * q + 1) * c = a ∧ q % 2 = 1)
 ·rw [if_pos hup];(have hw : j * 4503599627370496 + (q + 1) - 1 = j * 4503599627370496 + q := by omega);refine ⟨.inr ?_,.inl ?_⟩
  ·rw [hw,hmid,← ha];rcases hup with g | g
   ·exact .inl g
   ·exact .inr ⟨g.1,by omega⟩
  ·rw [← ha]
   refine Nat.lt_of_lt_of_le hi ?_
   unfold mid;have h3 := zYR (j * 4503599627370496 + (q + 1));have h4 : units (j * 4503599627370496 + (q + 1)) * B ≤ units (j * 4503599627370496 + (q + 1) + 1) * B := Nat.mul_le_mul_right _ (Nat.le_of_lt h3);rw [Nat.add_mul,q1];rw [q1] at h4;(have h5 : 2 * (q + 1) * c = (q + 1) * c + (q + 1) * c := by rw [Nat.mul_assoc,Nat.two_mul]);omega
 ·rw [if_neg hup];(have g1 : a ≤ (2 * q + 1) * c := Nat.le_of_not_lt fun g => hup (.inl g));refine ⟨?_,?_⟩
  ·by_cases h0 : j * 4503599627370496 + q = 0
   ·exact .inl h0
   ·refine .inr (.inl ?_);rw [← ha];refine Nat.lt_of_lt_of_le ?_ lo;unfold mid;have h3 := zYR (j * 4503599627370496 + q - 1);rw [show j * 4503599627370496 + q - 1 + 1 = j * 4503599627370496 + q by omega] at h3 ⊢;have h4 : units (j * 4503599627370496 + q - 1) * B < units (j * 4503599627370496 + q) * B := Nat.mul_lt_mul_of_pos_right h3 hB;rw [Nat.add_mul,q0];rw [q0] at h4;(have h5 : 2 * q * c = q * c + q * c := by rw [Nat.mul_assoc,Nat.two_mul]);omega
  ·unfold Under;rw [← ha,hmid];rcases Nat.lt_or_eq_of_le g1 with g | g
   ·exact .inl g
   ·refine .inr ⟨g,?_⟩;(have : ¬ q % 2 = 1 := fun k => hup (.inr ⟨g.symm,k⟩));omega
theorem K_exp : ∃ E : Nat,E = 1075 ∧ K = 2 ^ E := ⟨kE,rfl,rfl⟩
theorem K_pos : 0 < K := by
 obtain ⟨E,_,h⟩ := K_exp;rw [h];exact Nat.two_pow_pos E
theorem zKI {A B P M Q R n j : Nat} (hB : 0 < B) (hP : 0 < P) (hM : 0 < M) (hn : 1 ≤ n) (hK : K * (M * 2 ^ n) = 2 ^ (j + 1) * P)
  (hA : A * P = Q * (B * M) + R) (hR : R < B * M) (h1 : Q / 2 ^ n < 9007199254740992) (h2 : j = 0 ∨ 4503599627370496 ≤ Q / 2 ^ n) :
  zXA A B (j * 4503599627370496 + if 2 ^ (n - 1) < Q % 2 ^ n ∨ (Q % 2 ^ n = 2 ^ (n - 1) ∧ (0 < R ∨ Q / 2 ^ n % 2 = 1)) then Q / 2 ^ n + 1 else Q / 2 ^ n) := by
 obtain ⟨m,rfl⟩ : ∃ m,n = m + 1 := ⟨n - 1,by omega⟩;rw [Nat.add_sub_cancel];have hT : 0 < 2 ^ m := Nat.two_pow_pos m;(have hS : (2 : Nat) ^ (m + 1) = 2 * 2 ^ m := by rw [Nat.pow_succ,Nat.mul_comm]);rw [hS] at hK h1 h2 ⊢;obtain ⟨T,hTT⟩ : ∃ T,T = 2 ^ m := ⟨_,rfl⟩;rw [← hTT] at hK h1 h2 hT ⊢;obtain ⟨C,hC⟩ : ∃ C,C = B * M := ⟨_,rfl⟩;(have hC0 : 0 < C := by rw [hC];exact Nat.mul_pos hB hM);rw [← hC] at hA hR;have hQ := Nat.div_add_mod Q (2 * T);have hr : Q % (2 * T) < 2 * T := Nat.mod_lt _ (by omega);obtain ⟨q,hq⟩ : ∃ q,q = Q / (2 * T) := ⟨_,rfl⟩;obtain ⟨r,hrr⟩ : ∃ r,r = Q % (2 * T) := ⟨_,rfl⟩;rw [← hq] at h1 h2;rw [← hq,← hrr] at hQ ⊢;rw [← hrr] at hr
 have key : ∀ c,c * (2 ^ j * B) * P = c * T * C * K := by
  intro c
  have e1 : 2 * (c * (2 ^ j * B) * P) = 2 * (c * T * C * K) := by
   have g1 : 2 * (c * (2 ^ j * B) * P) = c * B * (2 ^ (j + 1) * P) := by
    rw [Nat.pow_succ];simp only [Nat.mul_assoc,Nat.mul_comm,Nat.mul_left_comm]
   rw [g1,← hK,hC];simp only [Nat.mul_assoc,Nat.mul_comm,Nat.mul_left_comm]
  omega
 have keyA : A * K * P = (Q * C + R) * K := by rw [← hA];simp only [Nat.mul_assoc,Nat.mul_comm,Nat.mul_left_comm]
 have hlt : ∀ c,c * (2 ^ j * B) < A * K ↔ c * T * C < Q * C + R := by
  intro c;rw [← Nat.mul_lt_mul_right hP,key,keyA,Nat.mul_lt_mul_right K_pos]
 have hgt : ∀ c,A * K < c * (2 ^ j * B) ↔ Q * C + R < c * T * C := by
  intro c;rw [← Nat.mul_lt_mul_right hP,key,keyA,Nat.mul_lt_mul_right K_pos]
 have heq : ∀ c,c * (2 ^ j * B) = A * K ↔ c * T * C = Q * C + R := by
  intro c;have a := hlt c;have b := hgt c;omega
 have hle : ∀ c,c * (2 ^ j * B) ≤ A * K ↔ c * T * C ≤ Q * C + R := by
  intro c;have b := hgt c;omega
 have cQ : ∀ x,x ≤ Q → x * C ≤ Q * C + R := fun x h => Nat.le_trans (Nat.mul_le_mul_right C h) (Nat.le_add_right _ _)
 have cG : ∀ x,Q < x → Q * C + R < x * C := fun x h => by
  have := Nat.mul_le_mul_right C (show Q + 1 ≤ x from h);rw [Nat.add_mul,Nat.one_mul] at this;omega
 (have e2 : 2 * q * T + r = Q := by rw [Nat.mul_assoc,Nat.mul_comm q T,← Nat.mul_assoc];exact hQ);(have e3 : 2 * (q + 1) * T = 2 * q * T + 2 * T := by rw [Nat.mul_add,Nat.add_mul]);(have e4 : (2 * q + 1) * T = 2 * q * T + T := by rw [Nat.add_mul,Nat.one_mul]);(have g2 : 2 * q * T ≤ Q := by clear hlt hgt heq hle key keyA hA hK;omega);(have g3 : Q < 2 * (q + 1) * T := by clear hlt hgt heq hle key keyA hA hK;omega);have hmain := zVf (A := A) (B := B) (j := j) (q := q) hB h1 h2 ((hle _).2 (cQ _ g2)) ((hgt _).2 (cG _ g3))
 have hcond : ((2 * q + 1) * (2 ^ j * B) < A * K ∨ ((2 * q + 1) * (2 ^ j * B) = A * K ∧ q % 2 = 1)) ↔ (T < r ∨ (r = T ∧ (0 < R ∨ q % 2 = 1))) := by
  rw [hlt,heq];rcases Nat.lt_trichotomy T r with h | h | h
  ·have := Nat.mul_le_mul_right C (show (2 * q + 1) * T + 1 ≤ Q by omega);rw [Nat.add_mul _ 1,Nat.one_mul] at this;exact ⟨fun _ => .inl h,fun _ => .inl (by omega)⟩
  ·(have : (2 * q + 1) * T = Q := by omega);rw [this];omega
  ·have := cG ((2 * q + 1) * T) (by omega);omega
 simp only [hcond] at hmain;exact hmain
theorem zZM {A B : Nat} (h : A * K < B) : zXA A B 0 := by
 refine ⟨.inl rfl,.inl ?_⟩;(have : mid 0 = 1 := by rfl);rw [this,Nat.one_mul];exact h
def INF : Nat := 9218868437227405312
def upN (D : Nat) (e : Int) : Nat := D * 10 ^ e.toNat
def loN (e : Int) : Nat := 10 ^ (-e).toNat
def zYJ (D : Nat) (e : Int) (w : Nat) : Prop :=
 if D = 0 ∨ e < -1000 then w = 0 else if 400 < e then w = INF else ∃ v,zXA (upN D e) (loN e) v ∧ w = min v INF
theorem zYs (e : Int) : 0 < loN e := Nat.pow_pos (by decide)
theorem zBZ {D : Nat} {e : Int} {v w : Nat} (hv : zYJ D e v) (hw : zYJ D e w) : v = w := by
 unfold zYJ at hv hw;by_cases h1 : D = 0 ∨ e < -1000
 ·rw [if_pos h1] at hv hw;rw [hv,hw]
 ·rw [if_neg h1] at hv hw;by_cases h2 : 400 < e
  ·rw [if_pos h2] at hv hw;rw [hv,hw]
  ·rw [if_neg h2] at hv hw;obtain ⟨a,ha,rfl⟩ := hv;obtain ⟨b,hb,rfl⟩ := hw;rw [zKx (zYs e) (zYs e) rfl ha hb]
theorem zVa {D : Nat} {e : Int} {w : Nat} (hw : zYJ D e w) : w ≤ INF := by
 unfold zYJ at hw;by_cases h1 : D = 0 ∨ e < -1000
 ·rw [if_pos h1] at hw;rw [hw];exact Nat.zero_le _
 ·rw [if_neg h1] at hw;by_cases h2 : 400 < e
  ·rw [if_pos h2] at hw;rw [hw];exact Nat.le_refl _
  ·rw [if_neg h2] at hw;obtain ⟨a,ha,rfl⟩ := hw
   exact Nat.min_le_right _ _
end Go.Proofs.YtongfmeediokmaaGreatDoor.Flo
end
section
namespace Go.Proofs.YtongfmeediokmaaGreatDoor.Pure
open Go.RowKit Go.Proofs.YtongfmeediokmaaGreatDoor.Pr Go.Proofs.YtongfmeediokmaaGreatDoorW.PrintWords Go.Proofs.YtongfmeediokmaaGreatDoorW.PrintLast Go.Proofs.YtongfmeediokmaaGreatDoorW.PrintMore Go.Proofs.YtongfmeediokmaaGreatDoor.Flo
def rnd (q n : Nat) : Nat := if 2 ^ (n - 1) < q % 2 ^ n ∨ (q % 2 ^ n = 2 ^ (n - 1) ∧ q / 2 ^ n % 2 = 1) then q / 2 ^ n + 1 else q / 2 ^ n
theorem zFj (n : Nat) (h : n ≤ 64) : IntKind.u64.wrap ((shl .u64 1 (n : Int)) - 1) = ((2 ^ n - 1 : Nat) : Int) := by
 have h9 := zZA 1 n h;rw [Nat.one_mul] at h9;have h9 : shl .u64 1 (n : Int) = ((2 ^ n % 2 ^ 64 : Nat) : Int) := h9;rw [h9];by_cases he : n = 64
 ·subst he;rw [Nat.mod_self]
  rfl
 ·have h8 : (2 : Nat) ^ n < 2 ^ 64 := Nat.pow_lt_pow_right (by decide) (by omega);have h7 := Nat.two_pow_pos n;rw [Nat.mod_eq_of_lt h8,show (((2 ^ n : Nat) : Int) - 1) = ((2 ^ n - 1 : Nat) : Int) by omega,u64_in _ (by omega)]
theorem zBV (q n : Nat) (hq : q < 2 ^ 64) (hn : 1 ≤ n) (hn2 : n ≤ 64) : flo_shifted.f (q : Int) false (n : Int) = some ((rnd q n : Nat) : Int) := by
 have hm : Go.bits .and .u64 (q : Int) (IntKind.u64.wrap ((shl .u64 1 (n : Int)) - 1)) = ((q % 2 ^ n : Nat) : Int) := by
  rw [zFj n hn2,zYo _ _ hq (by have := Nat.pow_le_pow_right (show 0 < 2 by decide) hn2;have := Nat.two_pow_pos n;omega),Nat.and_two_pow_sub_one_eq_mod]
 have h8 : (2 : Nat) ^ (n - 1) < 2 ^ 64 := Nat.pow_lt_pow_right (by decide) (by omega)
 have hmid : shl .u64 1 (((n - 1 : Nat) : Int)) = ((2 ^ (n - 1) : Nat) : Int) := by
  have h9 := zZA 1 (n - 1) (by omega);rw [Nat.one_mul,Nat.mod_eq_of_lt h8] at h9;exact h9
 have hsr := zVB q n hn2;have hdl : q / 2 ^ n < 2 ^ 64 := Nat.lt_of_le_of_lt (Nat.div_le_self ..) hq
 have hlow : Go.bits .and .u64 ((q / 2 ^ n : Nat) : Int) 1 = ((q / 2 ^ n % 2 : Nat) : Int) := by
  have := zYo (q / 2 ^ n) 1 hdl (by decide);rw [show (1 : Nat) = 2 ^ 1 - 1 from rfl,Nat.and_two_pow_sub_one_eq_mod] at this;exact this
 have h2 : (2 : Nat) ≤ 2 ^ n := by
  have := Nat.pow_le_pow_right (show 0 < 2 by decide) hn;omega
 have hd2 : q / 2 ^ n + 1 < 18446744073709551616 := by
  have : q / 2 ^ n ≤ q / 2 := Nat.div_le_div_left h2 (by decide);omega
 have hinc : IntKind.u64.wrap (((q / 2 ^ n : Nat) : Int) + 1) = ((q / 2 ^ n + 1 : Nat) : Int) := by
  rw [show (((q / 2 ^ n : Nat) : Int) + 1) = ((q / 2 ^ n + 1 : Nat) : Int) by push_cast;rfl,u64_in _ hd2]
 unfold flo_shifted.f;rw [if_pos (by omega),if_neg (by omega),wrapB _ (by omega) (by omega),if_pos (by omega),hm,show ((n : Int) - 1) = ((n - 1 : Nat) : Int) by omega,hmid,hsr,hlow,hinc];unfold rnd;obtain ⟨x,hx⟩ : ∃ x,x = q % 2 ^ n := ⟨_,rfl⟩;obtain ⟨y,hy⟩ : ∃ y,y = 2 ^ (n - 1) := ⟨_,rfl⟩;obtain ⟨z,hz⟩ : ∃ z,z = q / 2 ^ n := ⟨_,rfl⟩;rw [← hx,← hy,← hz];by_cases c1 : y < x
 ·rw [if_pos (by omega),if_pos (.inl c1)]
 ·rw [if_neg (by omega)];by_cases c2 : x = y
  ·rw [if_pos (by omega),if_neg (by decide)];by_cases c3 : z % 2 = 1
   ·rw [if_pos (by omega),if_pos (.inr ⟨c2,c3⟩)]
   ·rw [if_neg (by omega),if_neg (by omega)]
  ·rw [if_neg (by omega),if_neg (by omega)]
theorem zJW (a b : Nat) (h : b < 4503599627370496) (ha : a < 4096) : Go.bits .or .u64 ((a * 4503599627370496 : Nat) : Int) (b : Int) = ((a * 4503599627370496 + b : Nat) : Int) := by
 rw [zYl _ _ (by omega) (by omega)];have := Nat.two_pow_add_eq_or_of_lt (i := 52) h a;rw [Nat.mul_comm a,show (4503599627370496 : Nat) = 2 ^ 52 from rfl,this]
theorem zYk (a : Nat) (h : a < 18446744073709551616) : Go.bits .or .u64 0 (a : Int) = (a : Int) := by
 have := zYl 0 a (by decide) h;rw [Nat.zero_or] at this;exact this
theorem zZv (a : Nat) (h : a < 18446744073709551616) : Go.bits .and .u64 (a : Int) 4503599627370495 = ((a % 4503599627370496 : Nat) : Int) := by
 have := zYo a 4503599627370495 h (by decide);rw [show (4503599627370495 : Nat) = 2 ^ 52 - 1 from rfl,Nat.and_two_pow_sub_one_eq_mod] at this;exact this
theorem zGa (e : Int) (n j R : Nat) (hj : (j : Int) = e + n + 1074) (hb : j ≤ 100000) (hn : n ≤ 100000) (hR : R ≤ 9007199254740992) (h2 : j = 0 ∨ 4503599627370496 ≤ R) :
  Ev (fun k => flo_Make.j2 k e (R : Int) 0 (n : Int)) ((min (j * 4503599627370496 + R) INF : Nat) : Int) := by
 unfold INF;by_cases hbig : R = 9007199254740992
 ·subst hbig;(have hw : wrap64 (wrap64 (e + n) + 1) = (j : Int) - 1073 := by rw [wrapB (e + n) (by omega) (by omega),wrapB _ (by omega) (by omega)];omega);refine Ev.step (f := fun k => flo_Make.j3 k ((j : Int) - 1073) 4503599627370496 0) (fun k => ?_) (Ev.step (f := fun _ => some ((min (j * 4503599627370496 + 9007199254740992) 9218868437227405312 : Nat) : Int)) (fun k => ?_) (Ev.now _))
  ·rw [flo_Make.j2,if_pos (by rfl),hw]
  ·rw [flo_Make.j3,if_neg (by omega)];by_cases ho : (j : Int) - 1073 > 971
   ·rw [if_pos ho,Nat.min_eq_right (by omega)];have := zYk 9218868437227405312 (by decide);exact congrArg some this
   ·rw [if_neg ho,if_neg (by omega),wrapB _ (by omega) (by omega),Nat.min_eq_left (by omega)];(have h1 : IntKind.u64.wrap ((j : Int) - 1073 + 1075) = ((j + 2 : Nat) : Int) := by rw [show ((j : Int) - 1073 + 1075) = ((j + 2 : Nat) : Int) by omega,u64_in _ (by omega)]);(have h3 : IntKind.u64.wrap (((j + 2 : Nat) : Int) * 4503599627370496) = (((j + 2) * 4503599627370496 : Nat) : Int) := by rw [show (((j + 2 : Nat) : Int) * 4503599627370496) = (((j + 2) * 4503599627370496 : Nat) : Int) by omega,u64_in _ (by omega)]);have h4 := zZv 4503599627370496 (by decide);rw [Nat.mod_self] at h4;have h4 : Go.bits .and .u64 4503599627370496 4503599627370495 = ((0 : Nat) : Int) := h4;rw [h1,h3,zYk _ (by omega),h4,zJW _ _ (by decide) (by omega)];exact congrArg (fun z : Nat => some (z : Int)) (by omega)
 ·(have hw : wrap64 (e + n) = (j : Int) - 1074 := by rw [wrapB (e + n) (by omega) (by omega)];omega);refine Ev.step (f := fun k => flo_Make.j3 k ((j : Int) - 1074) (R : Int) 0) (fun k => ?_) (Ev.step (f := fun _ => some ((min (j * 4503599627370496 + R) 9218868437227405312 : Nat) : Int)) (fun k => ?_) (Ev.now _))
  ·rw [flo_Make.j2,if_neg (by omega),hw]
  ·by_cases h0 : R = 0
   ·subst h0;(obtain rfl : j = 0 := by omega);rw [flo_Make.j3,if_pos (by rfl)]
    rfl
   ·rw [flo_Make.j3,if_neg (by omega)];by_cases ho : (j : Int) - 1074 > 971
    ·rw [if_pos ho,Nat.min_eq_right (by omega)];have := zYk 9218868437227405312 (by decide);exact congrArg some this
    ·rw [if_neg ho,Nat.min_eq_left (by omega)];by_cases hs : R < 4503599627370496
     ·(obtain rfl : j = 0 := by omega);rw [if_pos (by omega),zYk _ (by omega),Nat.zero_mul,Nat.zero_add]
     ·rw [if_neg (by omega),wrapB _ (by omega) (by omega)];(have h1 : IntKind.u64.wrap ((j : Int) - 1074 + 1075) = ((j + 1 : Nat) : Int) := by rw [show ((j : Int) - 1074 + 1075) = ((j + 1 : Nat) : Int) by omega,u64_in _ (by omega)]);(have h3 : IntKind.u64.wrap (((j + 1 : Nat) : Int) * 4503599627370496) = (((j + 1) * 4503599627370496 : Nat) : Int) := by rw [show (((j + 1 : Nat) : Int) * 4503599627370496) = (((j + 1) * 4503599627370496 : Nat) : Int) by omega,u64_in _ (by omega)]);rw [h1,h3,zYk _ (by omega),zZv _ (by omega),zJW _ _ (by omega) (by omega)];exact congrArg (fun z : Nat => some (z : Int)) (by omega)
theorem zWo {q L n : Nat} (h : q < 2 ^ L) (hn : L ≤ n + 53) : q / 2 ^ n < 9007199254740992 := by
 rw [Nat.div_lt_iff_lt_mul (Nat.two_pow_pos n),show (9007199254740992 : Nat) = 2 ^ 53 from rfl,← Nat.pow_add];exact Nat.lt_of_lt_of_le h (Nat.pow_le_pow_right (by decide) (by omega))
theorem zWk {q L n : Nat} (h : 2 ^ (L - 1) ≤ q) (hn : L = n + 53) : 4503599627370496 ≤ q / 2 ^ n := by
 rw [Nat.le_div_iff_mul_le (Nat.two_pow_pos n),show (4503599627370496 : Nat) = 2 ^ 52 from rfl,← Nat.pow_add];exact Nat.le_trans (Nat.pow_le_pow_right (by decide) (by omega)) h
theorem zBW (q n : Nat) : q / 2 ^ n ≤ rnd q n ∧ rnd q n ≤ q / 2 ^ n + 1 := by
 unfold rnd;by_cases h : 2 ^ (n - 1) < q % 2 ^ n ∨ (q % 2 ^ n = 2 ^ (n - 1) ∧ q / 2 ^ n % 2 = 1)
 ·rw [if_pos h];omega
 ·rw [if_neg h];omega
theorem zFk (q : Nat) (e : Int) (n j L : Nat) (hL : L = Lib.bitLen q) (hq : 2 ^ 62 ≤ q) (hq2 : q < 2 ^ 64) (he : -8000 ≤ e) (he2 : e ≤ 8000) (hn1 : L ≤ n + 53) (hn2 : -1074 - e ≤ n) (hn3 : n + 53 = L ∨ (n : Int) = -1074 - e) (hj : (j : Int) = e + n + 1074) :
  Ev (fun k => flo_Make.f k false e (q : Int) false) ((if 64 < n then 0 else min (j * 4503599627370496 + rnd q n) INF : Nat) : Int) := by
 obtain ⟨b1,b2,b3⟩ := bitLen_spec q (by omega) hq2;rw [← hL] at b1 b2 b3
 have hL63 : 63 ≤ L := by
  apply Nat.le_of_not_lt;intro hlt;have : 2 ^ L ≤ 2 ^ 62 := Nat.pow_le_pow_right (by decide) (by omega);omega
 have hL64 : L ≤ 64 := by
  apply Nat.le_of_not_lt;intro hlt;have : (2 : Nat) ^ 64 ≤ 2 ^ (L - 1) := Nat.pow_le_pow_right (by decide) (by omega);omega
 have hlen : bits_Len64.f (q : Int) = some (L : Int) := by
  unfold bits_Len64.f;rw [if_pos (by omega),Int.toNat_natCast,hL]
 have hclamp : mn (mx e (-1048576)) 1048576 = e := by unfold mn mx;omega
 have hmx : mx (wrap64 ((wrap64 ((L : Int) - 52)) - 1)) (wrap64 ((-1074) - e)) = (n : Int) := by
  rw [wrapB ((L : Int) - 52) (by omega) (by omega),wrapB _ (by omega) (by omega),wrapB _ (by omega) (by omega)];unfold mx;omega
 have hj1 : ∀ (t : Int) (r : Int),flo_shifted.f (q : Int) false (n : Int) = some t → Ev (fun k => flo_Make.j2 k e t 0 (n : Int)) r → Ev (fun k => flo_Make.f k false e (q : Int) false) r := by
  intro t r ht hr;refine Ev.congr (f := fun k => flo_Make.j0 k e (q : Int) false 0) (fun k => ?_) (Ev.step (f := fun k => flo_Make.j1 k e (q : Int) false 0) (fun k => ?_) (Ev.step (fun k => ?_) hr))
  ·unfold flo_Make.f;rw [if_neg (by decide)]
  ·rw [flo_Make.j0,if_neg (by omega),hclamp]
  ·rw [flo_Make.j1,hlen,Option.bind_some,hmx,if_pos (by omega),ht,Option.bind_some]
 by_cases h64 : 64 < n
 ·rw [if_pos h64]
  refine hj1 0 _ ?_ ?_
  ·unfold flo_shifted.f;rw [if_pos (by omega),if_pos (by omega)]
  ·(have h0 : j = 0 := by omega);have := zGa e n j 0 hj (by omega) (by omega) (by omega) (.inl h0);rw [h0] at this;exact this
 ·rw [if_neg h64]
  refine hj1 _ _ (zBV q n hq2 (by omega) (by omega)) ?_
  have h5 := zWo b3 hn1;have h6 := zBW q n
  refine zGa e n j (rnd q n) hj (by omega) (by omega) (by omega) ?_
  rcases hn3 with h | h
  ·have := zWk b2 h.symm;exact .inr (by omega)
  ·exact .inl (by omega)
theorem or_one (Q : Nat) : Q ||| 1 = 2 * (Q / 2) + 1 := by
 have h := Nat.two_pow_add_eq_or_of_lt (i := 1) (b := 1) (by decide) (Q / 2);rw [Nat.pow_one] at h;rcases Nat.mod_two_eq_zero_or_one Q with h2 | h2
 ·rw [h,show 2 * (Q / 2) = Q by omega]
 ·(have e : Q = 2 * (Q / 2) ||| 1 := by rw [← h];omega);rw [h];(have : Q ||| 1 = (2 * (Q / 2) ||| 1) ||| 1 := by rw [← e]);rw [this,Nat.or_assoc,Nat.or_self]
def stick (Q R : Nat) : Nat := if 0 < R then Q ||| 1 else Q
theorem zVF (Q R n : Nat) (hn : 2 ≤ n) : stick Q R / 2 ^ n = Q / 2 ^ n ∧ rnd (stick Q R) n = if 2 ^ (n - 1) < Q % 2 ^ n ∨ (Q % 2 ^ n = 2 ^ (n - 1) ∧ (0 < R ∨ Q / 2 ^ n % 2 = 1)) then Q / 2 ^ n + 1 else Q / 2 ^ n := by
 unfold stick;by_cases hR : 0 < R
 ·rw [if_pos hR,or_one];obtain ⟨m,rfl⟩ : ∃ m,n = m + 2 := ⟨n - 2,by omega⟩;unfold rnd;rw [show m + 2 - 1 = m + 1 by omega];(have e1 : (2 : Nat) ^ (m + 1) = 2 * 2 ^ m := by rw [Nat.pow_succ,Nat.mul_comm]);(have e2 : (2 : Nat) ^ (m + 2) = 4 * 2 ^ m := by rw [show m + 2 = m + 1 + 1 from rfl,Nat.pow_succ,e1];omega);rw [e1,e2];have hT := Nat.two_pow_pos m;obtain ⟨T,hTT⟩ : ∃ T,T = 2 ^ m := ⟨_,rfl⟩;rw [← hTT] at hT ⊢;have hdm := Nat.div_add_mod Q (4 * T);have hlt := Nat.mod_lt Q (show 0 < 4 * T by omega);obtain ⟨z,hz⟩ : ∃ z,z = Q / (4 * T) := ⟨_,rfl⟩;obtain ⟨r,hr⟩ : ∃ r,r = Q % (4 * T) := ⟨_,rfl⟩;rw [← hz,← hr] at hdm;rw [← hr] at hlt;(have hzz : 4 * T * z = 2 * (2 * (T * z)) := by rw [show 4 * T * z = 4 * (T * z) from Nat.mul_assoc ..];omega);(have hq : 2 * (Q / 2) + 1 = (2 * (r / 2) + 1) + 4 * T * z := by omega);(have hr2 : 2 * (r / 2) + 1 < 4 * T := by omega);(have d1 : (2 * (Q / 2) + 1) / (4 * T) = z := by rw [hq,Nat.add_mul_div_left _ _ (by omega),Nat.div_eq_of_lt hr2,Nat.zero_add]);(have d2 : (2 * (Q / 2) + 1) % (4 * T) = 2 * (r / 2) + 1 := by rw [hq,Nat.add_mul_mod_self_left,Nat.mod_eq_of_lt hr2]);rw [d1,d2,← hz,← hr];refine ⟨rfl,?_⟩;by_cases c : 2 * T < 2 * (r / 2) + 1 ∨ (2 * (r / 2) + 1 = 2 * T ∧ z % 2 = 1)
  ·rw [if_pos c,if_pos (by omega)]
  ·rw [if_neg c,if_neg (by omega)]
 ·rw [if_neg hR];refine ⟨rfl,?_⟩;unfold rnd;by_cases c : 2 ^ (n - 1) < Q % 2 ^ n ∨ (Q % 2 ^ n = 2 ^ (n - 1) ∧ Q / 2 ^ n % 2 = 1)
  ·rw [if_pos c,if_pos (by omega)]
  ·rw [if_neg c,if_neg (by omega)]
theorem zJc (Q R : Nat) (h1 : 2 ^ 62 ≤ Q) (h2 : Q < 2 ^ 64) : 2 ^ 62 ≤ stick Q R ∧ stick Q R < 2 ^ 64 := by
 unfold stick;by_cases hR : 0 < R
 ·rw [if_pos hR,or_one];omega
 ·rw [if_neg hR];exact ⟨h1,h2⟩
theorem zHP {A B P M Q R : Nat} {e : Int} (hB : 0 < B) (hP : 0 < P) (hM : 0 < M) (hA : A * P = Q * (B * M) + R) (hR : R < B * M) (hQ1 : 2 ^ 62 ≤ Q) (hQ2 : Q < 2 ^ 64) (he : -8000 ≤ e) (he2 : e ≤ 8000)
  (hK : ∀ n j : Nat,(j : Int) = e + n + 1074 → K * (M * 2 ^ n) = 2 ^ (j + 1) * P) :
  ∃ v,zXA A B v ∧ Ev (fun k => flo_Make.f k false e ((stick Q R : Nat) : Int) false) ((min v INF : Nat) : Int) := by
 obtain ⟨s1,s2⟩ := zJc Q R hQ1 hQ2;obtain ⟨L,hL⟩ : ∃ L,L = Lib.bitLen (stick Q R) := ⟨_,rfl⟩;obtain ⟨b1,b2,b3⟩ := bitLen_spec (stick Q R) (by omega) s2;rw [← hL] at b1 b2 b3
 have hL63 : 63 ≤ L := by
  apply Nat.le_of_not_lt;intro hlt;have : 2 ^ L ≤ 2 ^ 62 := Nat.pow_le_pow_right (by decide) (by omega);omega
 have hL64 : L ≤ 64 := by
  apply Nat.le_of_not_lt;intro hlt;have : (2 : Nat) ^ 64 ≤ 2 ^ (L - 1) := Nat.pow_le_pow_right (by decide) (by omega);omega
 obtain ⟨n,hn1,hn2,hn3⟩ : ∃ n : Nat,L ≤ n + 53 ∧ -1074 - e ≤ n ∧ (n + 53 = L ∨ (n : Int) = -1074 - e) := by
  by_cases h : -1074 - e ≤ ((L - 53 : Nat) : Int)
  ·exact ⟨L - 53,by omega,h,.inl (by omega)⟩
  ·exact ⟨(-1074 - e).toNat,by omega,by omega,.inr (by omega)⟩
 obtain ⟨j,hj⟩ : ∃ j : Nat,(j : Int) = e + n + 1074 := ⟨(e + n + 1074).toNat,by omega⟩;have hmk := zFk (stick Q R) e n j L hL s1 s2 he he2 hn1 hn2 hn3 hj;have hKK := hK n j hj;obtain ⟨t1,t2⟩ := zVF Q R n (by omega);by_cases h64 : 64 < n
 ·rw [if_pos h64] at hmk;refine ⟨0,zZM ?_,?_⟩
  ·(have h0 : j = 0 := by omega);rw [h0,Nat.zero_add,Nat.pow_one] at hKK
   have c1 : A * P < 2 ^ 64 * (B * M) := by
    have := Nat.mul_le_mul_right (B * M) (show Q + 1 ≤ 2 ^ 64 from hQ2);rw [Nat.add_mul,Nat.one_mul] at this;omega
   have c2 : A * P * (K * 2 ^ n) < 2 ^ 64 * (B * M) * (K * 2 ^ n) := Nat.mul_lt_mul_of_pos_right c1 (Nat.mul_pos K_pos (Nat.two_pow_pos n))
   have c3 : 2 ^ 64 * (B * M) * (K * 2 ^ n) = 2 ^ 65 * B * P := by
    (have : 2 ^ 64 * (B * M) * (K * 2 ^ n) = 2 ^ 64 * B * (K * (M * 2 ^ n)) := by simp only [Nat.mul_assoc,Nat.mul_comm,Nat.mul_left_comm]);rw [this,hKK,show (2 : Nat) ^ 65 = 2 ^ 64 * 2 from rfl];simp only [Nat.mul_assoc,Nat.mul_comm,Nat.mul_left_comm]
   (have c4 : A * P * (K * 2 ^ n) = A * K * 2 ^ n * P := by simp only [Nat.mul_assoc,Nat.mul_comm,Nat.mul_left_comm]);rw [c3,c4] at c2;have c5 := Nat.lt_of_mul_lt_mul_right c2;have c6 : A * K * 2 ^ 65 ≤ A * K * 2 ^ n := Nat.mul_le_mul_left _ (Nat.pow_le_pow_right (by decide) h64);have c7 : A * K * 2 ^ 65 < 2 ^ 65 * B := Nat.lt_of_le_of_lt c6 c5;rw [Nat.mul_comm _ (2 ^ 65)] at c7;exact Nat.lt_of_mul_lt_mul_left c7
  ·exact hmk
 ·rw [if_neg h64,t2] at hmk;have h5 := zWo b3 hn1;rw [t1] at h5;refine ⟨_,zKI hB hP hM (by omega) hKK hA hR h5 ?_,hmk⟩;rcases hn3 with h | h
  ·have := zWk b2 h.symm;rw [t1] at this;exact .inr this
  ·exact .inl (by omega)
theorem zXq {x m : Nat} (h : x < 2 ^ m) : (toB x).length ≤ m / 32 + 1 := by
 refine zZF _ _ (Nat.lt_of_lt_of_le h ?_);rw [zYU];exact Nat.pow_le_pow_right (by decide) (by omega)
theorem zYW (n : Nat) : 10 ^ n < 2 ^ (4 * n + 1) := by
 have h1 : 10 ^ n ≤ 16 ^ n := Nat.pow_le_pow_left (by decide) n;(have h2 : (16 : Nat) ^ n = 2 ^ (4 * n) := by rw [Nat.pow_mul]);have h3 : (2 : Nat) ^ (4 * n) < 2 ^ (4 * n + 1) := Nat.pow_lt_pow_right (by decide) (by omega);omega
theorem zZx (x n m : Nat) (hn : n ≤ 100000) (hm : m ≤ 1000000) (h : x * 10 ^ n < 2 ^ m) : Ev (fun k => b_tens.f k (toB x) (n : Int)) (toB (x * 10 ^ n)) := by
 refine tens0 (m / 32 + 1) (by omega) n x (by omega) (Nat.lt_of_lt_of_le h ?_);rw [zYU];exact Nat.pow_le_pow_right (by decide) (by omega)
theorem zJT {A B la lb u v : Nat} (hA : A ≠ 0) (hB : B ≠ 0) (ha : LenIs A la) (hb : LenIs B lb) (h : la + u = 63 + lb + v) : 2 ^ 62 ≤ A * 2 ^ u / (B * 2 ^ v) ∧ A * 2 ^ u < B * 2 ^ v * 2 ^ 64 := by
 obtain ⟨a1,a2,a3⟩ := ha.2 hA;obtain ⟨b1,b2,b3⟩ := hb.2 hB;have hpos : 0 < B * 2 ^ v := Nat.mul_pos (Nat.pos_of_ne_zero hB) (Nat.two_pow_pos v);constructor
 ·rw [Nat.le_div_iff_mul_le hpos];have h1 : 2 ^ 62 * (B * 2 ^ v) ≤ 2 ^ 62 * (2 ^ lb * 2 ^ v) := Nat.mul_le_mul_left _ (Nat.mul_le_mul_right _ (Nat.le_of_lt b3))
  have h2 : 2 ^ 62 * (2 ^ lb * 2 ^ v) = 2 ^ (la - 1) * 2 ^ u := by
   rw [← Nat.pow_add,← Nat.pow_add,← Nat.pow_add]
   congr 1
   omega
  have h3 : 2 ^ (la - 1) * 2 ^ u ≤ A * 2 ^ u := Nat.mul_le_mul_right _ a2;omega
 ·have h1 : A * 2 ^ u < 2 ^ la * 2 ^ u := Nat.mul_lt_mul_of_pos_right a3 (Nat.two_pow_pos u)
  have h2 : 2 ^ la * 2 ^ u = 2 ^ (lb - 1) * 2 ^ v * 2 ^ 64 := by
   rw [← Nat.pow_add,← Nat.pow_add,← Nat.pow_add]
   congr 1
   omega
  have h3 : 2 ^ (lb - 1) * 2 ^ v * 2 ^ 64 ≤ B * 2 ^ v * 2 ^ 64 := Nat.mul_le_mul_right _ (Nat.mul_le_mul_right _ b2);omega
theorem zBe (e : Int) (u v n j : Nat) (hj : (j : Int) = e + n + 1074) (he : e = (v : Int) - u) : K * (2 ^ v * 2 ^ n) = 2 ^ (j + 1) * 2 ^ u := by
 obtain ⟨E,hE,hKE⟩ := K_exp;rw [hKE,← Nat.pow_add,← Nat.pow_add,← Nat.pow_add,show E + (v + n) = j + 1 + u by omega]
theorem zHy {x m u : Nat} (h : x < 2 ^ m) : (toB (x * 2 ^ u)).length ≤ (m + u) / 32 + 1 := by
 refine zXq ?_
 rw [Nat.pow_add];exact Nat.mul_lt_mul_of_pos_right h (Nat.two_pow_pos u)
theorem zVL (A B m : Nat) (hA : A ≠ 0) (hB : B ≠ 0) (hm : m ≤ 6000) (hAm : A < 2 ^ m) (hBm : B < 2 ^ m) :
  ∃ v,zXA A B v ∧ Ev (fun k => dec_nearest.j2 k (toB A) (toB B)) ((min v INF : Nat) : Int) := by
 have lA := zXq hAm;have lB := zXq hBm;obtain ⟨la,hla,hla2,hla3⟩ := zWj A (by omega);obtain ⟨lb,hlb,hlb2,hlb3⟩ := zWj B (by omega)
 have hla' : la ≤ m := by
  apply Nat.le_of_not_lt;intro hlt;have h1 := (hla2.2 hA).2.1;have : 2 ^ m ≤ 2 ^ (la - 1) := Nat.pow_le_pow_right (by decide) (by omega);omega
 have hlb' : lb ≤ m := by
  apply Nat.le_of_not_lt;intro hlt;have h1 := (hlb2.2 hB).2.1;have : 2 ^ m ≤ 2 ^ (lb - 1) := Nat.pow_le_pow_right (by decide) (by omega);omega
 obtain ⟨u,v,hu0,huv,hupv⟩ : ∃ u v : Nat,(u = 0 ∨ v = 0) ∧ la + u = 63 + lb + v ∧ (63 - ((la : Int) - lb)) = (u : Int) - v := by
  by_cases h : la ≤ 63 + lb
  ·exact ⟨63 + lb - la,0,.inr rfl,by omega,by omega⟩
  ·exact ⟨0,la - 63 - lb,.inl rfl,by omega,by omega⟩
 obtain ⟨q1,q2⟩ := zJT hA hB hla2 hlb2 huv;have hpos : 0 < B * 2 ^ v := Nat.mul_pos (Nat.pos_of_ne_zero hB) (Nat.two_pow_pos v)
 have hq3 : A * 2 ^ u / (B * 2 ^ v) < 2 ^ 64 := by
  rw [Nat.div_lt_iff_lt_mul hpos,Nat.mul_comm (2 ^ 64)];exact q2
 obtain ⟨w,hw,hwe⟩ := zHP (A := A) (B := B) (P := 2 ^ u) (M := 2 ^ v) (Q := A * 2 ^ u / (B * 2 ^ v)) (R := A * 2 ^ u % (B * 2 ^ v)) (e := (v : Int) - u) (Nat.pos_of_ne_zero hB) (Nat.two_pow_pos u) (Nat.two_pow_pos v)
  (by rw [Nat.mul_comm (A * 2 ^ u / (B * 2 ^ v))];exact (Nat.div_add_mod ..).symm) (Nat.mod_lt _ hpos) q1 hq3 (by omega) (by omega) (fun n j hj => zBe _ u v n j hj rfl)
 refine ⟨w,hw,?_⟩;(have lA2 : (toB (A * 2 ^ u)).length ≤ 1000000 := by have := zHy (u := u) hAm;omega);(have lB2 : (toB (B * 2 ^ v)).length ≤ 500000 := by have := zHy (u := v) hBm;omega);have hby := by_ev (A * 2 ^ u) (B * 2 ^ v) (by omega) lB2 lA2 q2
 have hj3 : Ev (fun k => dec_nearest.j3 k (toB (A * 2 ^ u)) (toB (B * 2 ^ v)) ((u : Int) - v)) ((min w INF : Nat) : Int) := by
  (have hwr : wrap64 (-((u : Int) - v)) = (v : Int) - u := by rw [wrapB _ (by omega) (by omega)];omega);refine Ev.step (fun k => ?_) (Ev.bind hby (f := fun k bt => if bt.2 = true then ((flo_Make.f k false ((v : Int) - u) (Go.bits .or .u64 bt.1 1) false).bind fun t => some t) else ((flo_Make.f k false ((v : Int) - u) bt.1 false).bind fun t => some t)) ?_)
  ·rw [dec_nearest.j3,hwr]
  ·by_cases hR : A * 2 ^ u % (B * 2 ^ v) ≠ 0
   ·have hor : Go.bits .or .u64 ((A * 2 ^ u / (B * 2 ^ v) : Nat) : Int) 1 = ((stick (A * 2 ^ u / (B * 2 ^ v)) (A * 2 ^ u % (B * 2 ^ v)) : Nat) : Int) := by
     unfold stick;rw [if_pos (Nat.pos_of_ne_zero hR)];exact zYl _ 1 hq3 (by decide)
    refine Ev.congr (fun k => ?_) (Ev.bind hwe (Ev.now _));simp only [decide_eq_true hR,if_true];rw [hor]
   ·have hor : ((A * 2 ^ u / (B * 2 ^ v) : Nat) : Int) = ((stick (A * 2 ^ u / (B * 2 ^ v)) (A * 2 ^ u % (B * 2 ^ v)) : Nat) : Int) := by
     unfold stick;rw [if_neg (by omega)]
    refine Ev.congr (fun k => ?_) (Ev.bind hwe (Ev.now _));simp only [decide_eq_false hR];rw [hor]
    rfl
 (have hup : wrap64 (63 - wrap64 ((la : Int) - (lb : Int))) = (u : Int) - v := by rw [wrapB ((la : Int) - lb) (by omega) (by omega),wrapB _ (by omega) (by omega)];exact hupv);by_cases hvu : (u : Int) - v ≥ 0
 ·(have hv0 : v = 0 := by omega);subst hv0;have huu := up_ev A u (.inl hA) (by omega);rw [Nat.pow_zero,Nat.mul_one] at hj3;refine Ev.step (fun k => ?_) (Ev.bind huu (f := fun k t => dec_nearest.j3 k t (toB B) ((u : Int) - (0 : Nat))) hj3);rw [dec_nearest.j2,hla,Option.bind_some,hlb,Option.bind_some,hup,if_pos hvu,show ((u : Int) - (0 : Nat)) = (u : Int) by omega]
 ·(have hu00 : u = 0 := by omega);subst hu00;have huu := up_ev B v (.inl hB) (by omega);rw [Nat.pow_zero,Nat.mul_one] at hj3;refine Ev.step (fun k => ?_) (Ev.bind huu (f := fun k t => dec_nearest.j3 k (toB A) t (((0 : Nat) : Int) - v)) hj3);rw [dec_nearest.j2,hla,Option.bind_some,hlb,Option.bind_some,hup,if_neg hvu,wrapB _ (by omega) (by omega),show (-(((0 : Nat) : Int) - (v : Int))) = (v : Int) by omega]
theorem zFO : Ev (fun k => flo_Make.f k false 9999 1 false) ((INF : Nat) : Int) := Ev.of (k := 8) (fun k => flo_Make.mono _ _ _ _ _) (by kernel_rfl)
theorem zHr (D m : Nat) (e : Int) (hm : m ≤ 1700) (hD : D < 2 ^ m) (he : -100000 ≤ e) (he2 : e ≤ 100000) (s : ByteArray) : ∃ w,zYJ D e w ∧ Ev (fun k => if ((toB D).length : Int) = 0 then dec_nearest.j1 k (toB D) true s e else dec_nearest.j1 k (toB D) (decide (e < (-1000))) s e) ((w : Nat) : Int) := by
 unfold zYJ;by_cases h1 : D = 0 ∨ e < -1000
 ·refine ⟨0,by rw [if_pos h1],?_⟩;have hz : Ev (fun k => dec_nearest.j1 k (toB D) true s e) ((0 : Nat) : Int) := Ev.step (f := fun _ => some 0) (fun k => by rw [dec_nearest.j1,if_pos rfl]) (Ev.now _);by_cases h0 : ((toB D).length : Int) = 0
  ·simp only [if_pos h0];exact hz
  ·(have hD0 : D ≠ 0 := by intro h;rw [h,zXx] at h0;exact h0 rfl);have he3 : e < -1000 := h1.resolve_left hD0;simp only [if_neg h0,decide_eq_true he3];exact hz
 ·(have hD0 : D ≠ 0 := fun h => h1 (.inl h));(have he3 : ¬ e < -1000 := fun h => h1 (.inr h));(have hlen : ¬ ((toB D).length : Int) = 0 := by rw [zYA hD0,List.length_cons];omega);by_cases h2 : 400 < e
  ·refine ⟨INF,by rw [if_neg h1,if_pos h2],?_⟩;simp only [if_neg hlen,decide_eq_false he3];refine Ev.step (fun k => ?_) (Ev.bind zFO (Ev.now _));rw [dec_nearest.j1,if_neg (by decide),if_pos h2]
  ·(have hone : toB 1 = [1] := by rw [zYA (by decide)];show (1 : Int) :: toB 0 = [1];rw [zXx]);by_cases h3 : e ≥ 0
   ·obtain ⟨n,rfl⟩ := Int.eq_ofNat_of_zero_le h3
    have hb : D * 10 ^ n < 2 ^ (m + (4 * n + 1)) := by
     rw [Nat.pow_add];exact Nat.mul_lt_mul'' hD (zYW n)
    have ht := zZx D n (m + (4 * n + 1)) (by omega) (by omega) hb;obtain ⟨v,hv,hve⟩ := zVL (D * 10 ^ n) 1 (m + (4 * n + 1)) (Nat.mul_ne_zero hD0 (Nat.ne_of_gt (Nat.pow_pos (by decide)))) (by decide) (by omega) hb (Nat.one_lt_two_pow (by omega));refine ⟨min v INF,?_,?_⟩
    ·rw [if_neg h1,if_neg h2];refine ⟨v,?_,rfl⟩;unfold upN loN;rw [show (-(n : Int)).toNat = 0 by omega,Nat.pow_zero,Int.toNat_natCast];exact hv
    ·simp only [if_neg hlen,decide_eq_false he3];rw [hone] at hve;refine Ev.step (fun k => ?_) (Ev.bind ht (f := fun k t => dec_nearest.j2 k t [1]) hve);rw [dec_nearest.j1,if_neg (by decide),if_neg h2,Option.bind_some,if_pos h3]
   ·obtain ⟨n,hn⟩ := Int.eq_ofNat_of_zero_le (show 0 ≤ -e by omega);(have hb : 1 * 10 ^ n < 2 ^ (4 * n + 1) := by rw [Nat.one_mul];exact zYW n);have ht := zZx 1 n (4 * n + 1) (by omega) (by omega) hb;rw [Nat.one_mul] at ht hb;have hDm : D < 2 ^ (m + (4 * n + 1)) := Nat.lt_of_lt_of_le hD (Nat.pow_le_pow_right (by decide) (by omega));have hBm : 10 ^ n < 2 ^ (m + (4 * n + 1)) := Nat.lt_of_lt_of_le hb (Nat.pow_le_pow_right (by decide) (by omega));obtain ⟨v,hv,hve⟩ := zVL D (10 ^ n) (m + (4 * n + 1)) hD0 (Nat.ne_of_gt (Nat.pow_pos (by decide))) (by omega) hDm hBm;refine ⟨min v INF,?_,?_⟩
    ·rw [if_neg h1,if_neg h2];refine ⟨v,?_,rfl⟩;unfold upN loN;rw [show e.toNat = 0 by omega,show (-e).toNat = n by omega,Nat.pow_zero,Nat.mul_one];exact hv
    ·simp only [if_neg hlen,decide_eq_false he3];rw [hone] at ht;refine Ev.step (fun k => ?_) (Ev.bind ht (f := fun k t => dec_nearest.j2 k (toB D) t) hve);rw [dec_nearest.j1,if_neg (by decide),if_neg h2,Option.bind_some,if_neg h3,wrapB _ (by omega) (by omega),hn]
def dval (s : ByteArray) : Nat → Nat
 | 0 => 0
 | i + 1 => dval s i * 10 + (bt s (i : Int) - 48).toNat
def zQH (s : ByteArray) : Prop := ∀ i : Nat,i < s.size → 48 ≤ bt s (i : Int) ∧ bt s (i : Int) ≤ 57
theorem zKF (s : ByteArray) (h : zQH s) : ∀ i,i ≤ s.size → dval s i < 10 ^ i
 | 0,_ => by simp [dval]
 | i + 1,hi => by
  have ih := zKF s h i (by omega);have := h i (by omega);rw [dval,Nat.pow_succ];omega
theorem zKG (s : ByteArray) (e : Int) (hs : zQH s) (hsz : s.size ≤ 400) (w : Int) (hend : Ev (fun k => if ((toB (dval s s.size)).length : Int) = 0 then dec_nearest.j1 k (toB (dval s s.size)) true s e else dec_nearest.j1 k (toB (dval s s.size)) (decide (e < (-1000))) s e) w) : ∀ d i : Nat,i + d = s.size →
  Ev (fun k => dec_nearest.l0 k (toB (dval s i)) (s.size : Int) (i : Int) s e) w
 | 0,i,hi => by
  (obtain rfl : i = s.size := by omega);refine Ev.step (fun k => ?_) hend;rw [dec_nearest.l0,if_neg (by omega)]
 | d + 1,i,hi => by
  have ih := zKG s e hs hsz w hend d (i + 1) (by omega);have hb := hs i (by omega)
  have hl : (toB (dval s i)).length ≤ 1048576 := by
   have := zXq (Nat.lt_trans (zKF s hs i (by omega)) (zYW i));omega
  have ht := zZf (dval s i) 10 (bt s (i : Int) - 48).toNat (by decide) (by omega) hl;(have hbt : (bt s (i : Int) - 48) % 256 = (((bt s (i : Int) - 48).toNat : Nat) : Int) := by omega);refine Ev.step (fun k => ?_) (Ev.bind ht (f := fun k t => dec_nearest.l0 k t (s.size : Int) ((i + 1 : Nat) : Int) s e) ih);rw [dec_nearest.l0,if_pos (by omega),if_pos (by omega),if_pos (by omega),hbt,wrapB _ (by omega) (by omega)]
  rfl
theorem zWh (s : ByteArray) (e : Int) (hs : zQH s) (hsz : s.size ≤ 400) (he : -100000 ≤ e) (he2 : e ≤ 100000) : ∃ w,zYJ (dval s s.size) e w ∧ Ev (fun k => dec_nearest.f k s e) ((w : Nat) : Int) := by
 have hbig : dval s s.size < 2 ^ (4 * s.size + 1) := Nat.lt_trans (zKF s hs s.size (Nat.le_refl _)) (zYW s.size);obtain ⟨w,hw,hwe⟩ := zHr (dval s s.size) (4 * s.size + 1) e (by omega) hbig he he2 s;refine ⟨w,hw,?_⟩;have h := zKG s e hs hsz _ hwe s.size 0 (by omega);refine Ev.congr (fun k => ?_) h;unfold dec_nearest.f dval;rw [zXx]
 rfl
abbrev bytes (s : ByteArray) : List UInt8 := s.data.toList
theorem zQE (s : ByteArray) : (bytes s).length = s.size := Array.length_toList
theorem zYQ {a b : ByteArray} (h : bytes a = bytes b) : a = b := by
 cases a;cases b
 congr 1
 exact Array.toList_inj.1 h
theorem zXZ (s : ByteArray) : s.toList = bytes s := Go.ByteArray.toList_eq s
theorem zQU (s : ByteArray) (a b : Nat) : bytes (s.extract a b) = ((bytes s).take b).drop a := by
 unfold bytes;rw [ByteArray.data_extract,Array.toList_extract,List.extract_eq_take_drop,List.drop_take]
theorem bytes_append (a b : ByteArray) : bytes (a ++ b) = bytes a ++ bytes b := by
 unfold bytes;rw [ByteArray.data_append,Array.toList_append]
theorem zZt (s : ByteArray) (k : Nat) : bt s (k : Int) = (((bytes s)[k]?).map fun b => (b.toNat : Int)).getD 0 := by
 unfold bt;rw [Int.toNat_natCast];by_cases h : k < s.size
 ·rw [dif_pos h];unfold bytes;rw [List.getElem?_eq_getElem (by rw [zQE];exact h)]
  rfl
 ·rw [dif_neg h,List.getElem?_eq_none (by rw [zQE];omega)]
  rfl
theorem zXu (a b : ByteArray) (k : Nat) : bt (a ++ b) (k : Int) = if k < a.size then bt a (k : Int) else bt b ((k - a.size : Nat) : Int) := by
 rw [zZt,bytes_append];by_cases h : k < a.size
 ·rw [if_pos h,List.getElem?_append_left (by rw [zQE];exact h),zZt]
 ·rw [if_neg h,List.getElem?_append_right (by rw [zQE];omega),zQE,zZt]
def suf (s : ByteArray) (a : Nat) : ByteArray := s.extract a s.size
theorem zYe (s : ByteArray) (a : Nat) : (suf s a).size = s.size - a := by
 have := zQE (suf s a);unfold suf at this ⊢;rw [zQU,List.length_drop,List.length_take,zQE,Nat.min_self] at this;exact this.symm
theorem zYc (s : ByteArray) (a : Nat) : bytes (suf s a) = (bytes s).drop a := by
 unfold suf;rw [zQU,List.take_of_length_le (by rw [zQE];exact Nat.le_refl _)]
theorem zVx (s : ByteArray) (a b : Nat) : (suf s a).extract b (suf s a).size = suf s (a + b) := by
 refine zYQ ?_
 rw [show (suf s a).extract b (suf s a).size = suf (suf s a) b from rfl,zYc,zYc,zYc,List.drop_drop]
theorem zGL (s : ByteArray) : suf s 0 = s := zYQ (by rw [zYc,List.drop_zero])
theorem zHU (s : ByteArray) (a b c : Nat) : (suf s a).extract b c = s.extract (a + b) (a + c) := by
 refine zYQ ?_
 rw [zQU,zYc,zQU,List.take_drop,List.drop_drop]
theorem zBL (s : ByteArray) (a i : Nat) : bt (suf s a) (i : Int) = bt s ((a + i : Nat) : Int) := by
 rw [zZt,zYc,List.getElem?_drop,zZt]
theorem ext_size (s : ByteArray) (a b : Nat) (h : b ≤ s.size) : (s.extract a b).size = b - a := by
 have := zQE (s.extract a b);rw [zQU,List.length_drop,List.length_take,zQE,Nat.min_eq_left h] at this;exact this.symm
theorem zBM (s : ByteArray) (a b i : Nat) (h : a + i < b) : bt (s.extract a b) (i : Int) = bt s ((a + i : Nat) : Int) := by
 rw [zZt,zQU,List.getElem?_drop,List.getElem?_take_of_lt h,zZt]
theorem zYr (s : ByteArray) : s.toList = ([] : List UInt8) ↔ s.size = 0 := by
 rw [zXZ];constructor
 ·intro h;rw [← zQE,h];rfl
 ·intro h;exact List.eq_nil_of_length_eq_zero (by rw [zQE];exact h)
def Dg (s : ByteArray) (i : Nat) : Prop := i < s.size ∧ 48 ≤ bt s (i : Int) ∧ bt s (i : Int) ≤ 57
instance (s : ByteArray) (i : Nat) : Decidable (Dg s i) := by unfold Dg;exact inferInstance
def DE (s : ByteArray) (i j : Nat) : Prop := i ≤ j ∧ j ≤ s.size ∧ (∀ t,i ≤ t → t < j → Dg s t) ∧ ¬ Dg s j
theorem zWT (s : ByteArray) : ∀ (n i : Nat),i + n = s.size → ∃ j,DE s i j
 | 0,i,h => ⟨i,Nat.le_refl _,by omega,fun t h1 h2 => by omega,fun g => by have := g.1;omega⟩
 | n + 1,i,h => by
  by_cases g : Dg s i
  ·obtain ⟨j,h1,h2,h3,h4⟩ := zWT s n (i + 1) (by omega);refine ⟨j,by omega,h2,fun t t1 t2 => ?_,h4⟩;by_cases e : t = i
   ·rw [e];exact g
   ·exact h3 t (by omega) t2
  ·exact ⟨i,Nat.le_refl _,by omega,fun t h1 h2 => by omega,g⟩
theorem zZT (s : ByteArray) (a j : Nat) (hsz : s.size ≤ 1000000) (h : DE s a j) : ∀ d i : Nat,a ≤ i → i + d = j → Ev (fun k => dec_digits.l0 k (suf s a) ((suf s a).size : Int) ((i - a : Nat) : Int)) ((j - a : Nat) : Int)
 | 0,i,ha,hi => by
  (obtain rfl : i = j := by omega);have hs := zYe s a;have h2 := h.2.1;by_cases he : i = s.size
  ·refine Ev.step (f := fun _ => some ((i - a : Nat) : Int)) (fun k => ?_) (Ev.now _);rw [dec_digits.l0,if_neg (by omega),hs,he]
  ·(have hnd : ¬ (48 ≤ bt s (i : Int) ∧ bt s (i : Int) ≤ 57) := fun g => h.2.2.2 ⟨by omega,g⟩);refine Ev.step (f := fun _ => some ((i - a : Nat) : Int)) (fun k => ?_) (Ev.now _);rw [dec_digits.l0,if_pos (by omega),if_pos (by omega),if_pos (by omega),zBL,show a + (i - a) = i by omega];by_cases c : bt s (i : Int) < 48
   ·rw [if_pos c]
   ·rw [if_neg c,if_pos (by omega)]
 | d + 1,i,ha,hi => by
  have ih := zZT s a j hsz h d (i + 1) (by omega) (by omega);have hg := h.2.2.1 i ha (by omega);have hs := zYe s a;have h2 := h.2.1;have h3 := hg.1;refine Ev.step (fun k => ?_) ih;rw [dec_digits.l0,if_pos (by omega),if_pos (by omega),if_pos (by omega),zBL,show a + (i - a) = i by omega,if_neg (by have := hg.2.1;omega),if_neg (by have := hg.2.2;omega),wrapB _ (by omega) (by omega),show (((i - a : Nat) : Int) + 1) = ((i + 1 - a : Nat) : Int) by omega]
theorem zJV (s : ByteArray) (a j : Nat) (hsz : s.size ≤ 1000000) (h : DE s a j) : Ev (fun k => dec_digits.f k (suf s a)) ((j - a : Nat) : Int) := by
 have g := zZT s a j hsz h (j - a) a (Nat.le_refl _) (by have := h.1;omega);rw [Nat.sub_self] at g;exact g
def efold (s : ByteArray) : Nat → Nat → Nat → Nat
 | 0,a,e => e
 | n + 1,a,e => efold s n (a + 1) (min (10 * e + (bt s (a : Int) - 48).toNat) 9999)
theorem zWL (s : ByteArray) : ∀ n a e,e ≤ 9999 → efold s n a e ≤ 9999
 | 0,a,e,h => h
 | n + 1,a,e,h => zWL s n (a + 1) _ (Nat.min_le_right ..)
def efrom (s : ByteArray) (a : Nat) : Nat := efold s (s.size - a) a 0
theorem zBG (s : ByteArray) (a : Nat) (hsz : s.size ≤ 1000000) (x8 x : Int) (d : ByteArray) (h8 : x8 = 1 ∨ x8 = -1) (hx : -1000000 ≤ x ∧ x ≤ 1000000) (hd : ∀ t,a ≤ t → t < s.size → Dg s t) : ∀ n i e : Nat,a ≤ i → i + n = s.size → e ≤ 9999 →
  Ev (fun k => dec_cut.l0 k (suf s a) x8 (e : Int) ((suf s a).size : Int) ((i - a : Nat) : Int) d x) (d,x + x8 * (efold s n i e : Nat),true)
 | 0,i,e,ha,hi,he => by
  have hs := zYe s a
  have hw : wrap64 (x + wrap64 (x8 * (e : Int))) = x + x8 * (efold s 0 i e : Nat) := by
   show _ = x + x8 * (e : Int);rcases h8 with h | h
   ·rw [h,wrapB (1 * (e : Int)) (by omega) (by omega),wrapB _ (by omega) (by omega)]
   ·rw [h,wrapB (-1 * (e : Int)) (by omega) (by omega),wrapB _ (by omega) (by omega)]
  refine Ev.step (f := fun _ => some (d,x + x8 * (efold s 0 i e : Nat),true)) (fun k => ?_) (Ev.now _);rw [dec_cut.l0,if_neg (by omega),hw]
 | n + 1,i,e,ha,hi,he => by
  have hs := zYe s a;have hg := hd i ha (by omega);have g1 := hg.2.1;have g2 := hg.2.2;have ih := zBG s a hsz x8 x d h8 hx hd n (i + 1) (min (10 * e + (bt s (i : Int) - 48).toNat) 9999) (by omega) (by omega) (Nat.min_le_right ..);refine Ev.step (fun k => ?_) ih;have hb : (bt s (i : Int) - 48) % 256 = bt s (i : Int) - 48 := by omega
  have hm : mn (wrap64 ((wrap64 (10 * (e : Int))) + (bt s (i : Int) - 48))) 9999 = ((min (10 * e + (bt s (i : Int) - 48).toNat) 9999 : Nat) : Int) := by
   rw [wrapB (10 * (e : Int)) (by omega) (by omega),wrapB _ (by omega) (by omega)];unfold mn;omega
  rw [dec_cut.l0,if_pos (by omega),if_pos (by omega),if_pos (by omega),zBL,show a + (i - a) = i by omega,hb,hm,wrapB _ (by omega) (by omega),show (((i - a : Nat) : Int) + 1) = ((i + 1 - a : Nat) : Int) by omega]
theorem zHH (s : ByteArray) (a j : Nat) (hsz : s.size ≤ 1000000) (ha : a ≤ s.size) (x8 x : Int) (d : ByteArray) (h8 : x8 = 1 ∨ x8 = -1) (hx : -1000000 ≤ x ∧ x ≤ 1000000) (h : DE s a j) :
  Ev (fun k => dec_cut.j3 k (suf s a) x8 d x) (if a = s.size ∨ j ≠ s.size then (d,x,false) else (d,x + x8 * (efrom s a : Nat),true)) := by
 have hs := zYe s a;by_cases h0 : a = s.size
 ·rw [if_pos (.inl h0)];refine Ev.step (fun k => ?_) (Ev.step (f := fun _ => some (d,x,false)) (g := fun k => dec_cut.j4 k (suf s a) x8 true d x) (fun k => ?_) (Ev.now _))
  ·rw [dec_cut.j3,if_pos ((zYr _).2 (by omega))]
  ·rw [dec_cut.j4,if_pos rfl]
 ·have hdg := zJV s a j hsz h;have h1 := h.1;have h2 := h.2.1;by_cases hj : j = s.size
  ·rw [if_neg (by omega)];have hl := zBG s a hsz x8 x d h8 hx (fun t t1 t2 => h.2.2.1 t t1 (by omega)) (s.size - a) a 0 (Nat.le_refl _) (by omega) (by omega);rw [Nat.sub_self] at hl
   have h4 : Ev (fun k => dec_cut.j4 k (suf s a) x8 (((j - a : Nat) : Int) != ((suf s a).size : Int)) d x) (d,x + x8 * (efrom s a : Nat),true) := by
    refine Ev.step (fun k => ?_) hl;rw [dec_cut.j4,if_neg (by rw [hs,hj];simp)]
    rfl
   refine Ev.step (fun k => ?_) (Ev.bind hdg (f := fun k t => dec_cut.j4 k (suf s a) x8 (t != ((suf s a).size : Int)) d x) h4);rw [dec_cut.j3,if_neg (fun c => by have := (zYr _).1 c;omega)]
  ·rw [if_pos (.inr hj)]
   have h4 : Ev (fun k => dec_cut.j4 k (suf s a) x8 (((j - a : Nat) : Int) != ((suf s a).size : Int)) d x) (d,x,false) := by
    refine Ev.step (f := fun _ => some (d,x,false)) (fun k => ?_) (Ev.now _);rw [dec_cut.j4,if_pos (by rw [hs];exact bne_iff_ne.2 (by omega))]
   refine Ev.step (fun k => ?_) (Ev.bind hdg (f := fun k t => dec_cut.j4 k (suf s a) x8 (t != ((suf s a).size : Int)) d x) h4);rw [dec_cut.j3,if_neg (fun c => by have := (zYr _).1 c;omega)]
theorem zYY (s : ByteArray) (a : Nat) : (suf s a).extract 1 (suf s a).size = suf s (a + 1) := zVx s a 1
theorem zZa (s : ByteArray) (a : Nat) : bt (suf s a) 0 = bt s (a : Int) := zBL s a 0
theorem zYN (s : ByteArray) (a : Nat) (hsz : s.size ≤ 1000000) (ha : a ≤ s.size) (x : Int) (d : ByteArray) (r : ByteArray × Int × Bool)
  (h0 : a = s.size → r = (d,x,true))
  (h1 : a < s.size → bt s (a : Int) ≠ 101 → bt s (a : Int) ≠ 69 → r = (d,x,false))
  (h2 : a < s.size → (bt s (a : Int) = 101 ∨ bt s (a : Int) = 69) → a + 1 < s.size → bt s ((a + 1 : Nat) : Int) = 45 → Ev (fun k => dec_cut.j3 k (suf s (a + 2)) (-1) d x) r)
  (h3 : a < s.size → (bt s (a : Int) = 101 ∨ bt s (a : Int) = 69) → a + 1 < s.size → bt s ((a + 1 : Nat) : Int) = 43 → Ev (fun k => dec_cut.j3 k (suf s (a + 2)) 1 d x) r)
  (h4 : a < s.size → (bt s (a : Int) = 101 ∨ bt s (a : Int) = 69) → (a + 1 = s.size ∨ (bt s ((a + 1 : Nat) : Int) ≠ 43 ∧ bt s ((a + 1 : Nat) : Int) ≠ 45)) → Ev (fun k => dec_cut.j3 k (suf s (a + 1)) 1 d x) r) :
  Ev (fun k => dec_cut.j0 k (suf s a) d x) r := by
 have hs := zYe s a;have hs1 := zYe s (a + 1);by_cases c0 : a = s.size
 ·rw [h0 c0];refine Ev.step (f := fun _ => some (d,x,true)) (fun k => ?_) (Ev.now _);rw [dec_cut.j0,if_pos ((zYr _).2 (by omega))]
 ·(have hlt : a < s.size := by omega);by_cases ce : bt s (a : Int) = 101 ∨ bt s (a : Int) = 69
  ·
   have hj1 : Ev (fun k => dec_cut.j1 k (suf s a) false d x) r := by
    by_cases c1 : a + 1 = s.size
    ·have g := h4 hlt ce (.inl c1);refine Ev.step (fun k => ?_) (Ev.step (g := fun k => dec_cut.j2 k (suf s (a + 1)) 1 false d x) (fun k => ?_) g)
     ·rw [dec_cut.j1,if_neg (by decide),if_pos (by omega),zYY,if_pos ((zYr _).2 (by omega))]
     ·rw [dec_cut.j2,if_neg (by decide)]
    ·(have hlt1 : a + 1 < s.size := by omega);by_cases c2 : bt s ((a + 1 : Nat) : Int) = 43
     ·have g := h3 hlt ce hlt1 c2;refine Ev.step (fun k => ?_) (Ev.step (g := fun k => dec_cut.j2 k (suf s (a + 1)) 1 true d x) (fun k => ?_) g)
      ·rw [dec_cut.j1,if_neg (by decide),if_pos (by omega),zYY,if_neg (fun c => by have := (zYr _).1 c;omega),if_pos (by omega),zZa,if_pos c2]
      ·rw [dec_cut.j2,if_pos rfl,if_pos (by omega),zZa,if_neg (by rw [c2];decide),if_pos (by omega),zYY]
     ·by_cases c3 : bt s ((a + 1 : Nat) : Int) = 45
      ·have g := h2 hlt ce hlt1 c3;refine Ev.step (fun k => ?_) (Ev.step (g := fun k => dec_cut.j2 k (suf s (a + 1)) 1 true d x) (fun k => ?_) g)
       ·rw [dec_cut.j1,if_neg (by decide),if_pos (by omega),zYY,if_neg (fun c => by have := (zYr _).1 c;omega),if_pos (by omega),zZa,if_neg c2,c3]
        rfl
       ·rw [dec_cut.j2,if_pos rfl,if_pos (by omega),zZa,if_pos c3,if_pos (by omega),zYY]
      ·have g := h4 hlt ce (.inr ⟨c2,c3⟩);refine Ev.step (fun k => ?_) (Ev.step (g := fun k => dec_cut.j2 k (suf s (a + 1)) 1 false d x) (fun k => ?_) g)
       ·rw [dec_cut.j1,if_neg (by decide),if_pos (by omega),zYY,if_neg (fun c => by have := (zYr _).1 c;omega),if_pos (by omega),zZa,if_neg c2,beq_eq_false_iff_ne.2 c3]
       ·rw [dec_cut.j2,if_neg (by decide)]
   refine Ev.step (fun k => ?_) hj1;rw [dec_cut.j0,if_neg (fun c => by have := (zYr _).1 c;omega),if_pos (by omega),zZa];rcases ce with c | c
   ·rw [if_pos c]
   ·rw [if_neg (by rw [c];decide),c]
    rfl
  ·(have c1 : bt s (a : Int) ≠ 101 := fun c => ce (.inl c));(have c2 : bt s (a : Int) ≠ 69 := fun c => ce (.inr c));rw [h1 hlt c1 c2];refine Ev.step (fun k => ?_) (Ev.step (f := fun _ => some (d,x,false)) (g := fun k => dec_cut.j1 k (suf s a) true d x) (fun k => ?_) (Ev.now _))
   ·rw [dec_cut.j0,if_neg (fun c => by have := (zYr _).1 c;omega),if_pos (by omega),zZa,if_neg c1,bne_iff_ne.2 c2]
   ·rw [dec_cut.j1,if_pos rfl]
theorem zVh (s : ByteArray) (a : Nat) : strings_HasPrefix.f (suf s a) (⟨#[46]⟩ : ByteArray) = some (decide (a < s.size ∧ bt s (a : Int) = 46)) := by
 have hs := zYe s a;unfold strings_HasPrefix.f stringslite_HasPrefix.f;rw [show (((⟨#[46]⟩ : ByteArray).size : Nat) : Int) = 1 from rfl];by_cases h : a < s.size
 ·rw [if_pos (by omega),if_pos (by omega),if_pos (by omega),Option.bind_some,zXZ,zXZ,show ((1 : Int)).toNat = 1 from rfl,zQU,List.drop_zero,zYc]
  obtain ⟨b,l,hb⟩ : ∃ b l,(bytes s).drop a = b :: l := by
   cases hd : (bytes s).drop a with
   | nil => have := congrArg List.length hd;rw [List.length_drop,zQE] at this;simp at this;omega
   | cons b l => exact ⟨b,l,rfl⟩
  have hbt : bt s (a : Int) = (b.toNat : Int) := by
   rw [zZt,show (bytes s)[a]? = some b by
    have := List.getElem?_drop (xs := bytes s) (i := a) (j := 0);rw [hb] at this
    simpa using this.symm]
   rfl
  rw [hb,hbt]
  show some (([b] : List UInt8) == [46]) = _
  congr 1
  by_cases e : b = 46
  ·subst e;simp [h]
  ·rw [decide_eq_false (by
    rintro ⟨_,c⟩
    exact e (UInt8.toNat_inj.1 (by show b.toNat = 46;omega)))]
   exact beq_eq_false_iff_ne.2 (fun c => e (by injection c))
 ·rw [if_neg (by omega),Option.bind_some,decide_eq_false (fun c => h c.1)]
theorem zWp (s : ByteArray) (n m : Nat) (hsz : s.size ≤ 1000000) (hn : DE s 0 n) (r : ByteArray × Int × Bool)
  (hr0 : n = 0 → r = (s.extract 0 0,0,false))
  (h1 : n ≠ 0 → n < s.size → bt s (n : Int) = 46 → DE s (n + 1) m ∧ (m = n + 1 → r = (s.extract 0 n,0,false)) ∧ (m ≠ n + 1 → Ev (fun k => dec_cut.j0 k (suf s m) (s.extract 0 n ++ s.extract (n + 1) m) (-((m - n - 1 : Nat) : Int))) r))
  (h2 : n ≠ 0 → ¬ (n < s.size ∧ bt s (n : Int) = 46) → Ev (fun k => dec_cut.j0 k (suf s n) (s.extract 0 n) 0) r) :
  Ev (fun k => dec_cut.f k s) r := by
 have hdg := zJV s 0 n hsz hn;rw [Nat.sub_zero,zGL] at hdg;have hn2 := hn.2.1
 have hbody : Ev (fun k => (if (0 : Int) ≤ (n : Int) then (if (n : Int) ≤ (s.size : Int) then (if (n : Int) = 0 then (some (s.extract 0 ((n : Int) : Int).toNat,(0 : Int),false)) else ((strings_HasPrefix.f (s.extract ((n : Int) : Int).toNat s.size) (⟨#[46]⟩ : ByteArray)).bind fun t366 => (if t366 = true then (if 1 ≤ ((s.extract ((n : Int) : Int).toNat s.size).size : Int) then ((dec_digits.f k ((s.extract ((n : Int) : Int).toNat s.size).extract 1 (s.extract ((n : Int) : Int).toNat s.size).size)).bind fun t367 => (if t367 = 0 then (some (s.extract 0 ((n : Int) : Int).toNat,0,false)) else (if 1 ≤ (wrap64 (1 + t367)) then (if (wrap64 (1 + t367)) ≤ ((s.extract ((n : Int) : Int).toNat s.size).size : Int) then (if (s.extract 0 ((n : Int) : Int).toNat).size + ((s.extract ((n : Int) : Int).toNat s.size).extract 1 ((wrap64 (1 + t367)) : Int).toNat).size ≤ 9223372036854775807 then (if 0 ≤ (wrap64 (1 + t367)) then (dec_cut.j0 k ((s.extract ((n : Int) : Int).toNat s.size).extract ((wrap64 (1 + t367)) : Int).toNat (s.extract ((n : Int) : Int).toNat s.size).size) ((s.extract 0 ((n : Int) : Int).toNat) ++ ((s.extract ((n : Int) : Int).toNat s.size).extract 1 ((wrap64 (1 + t367)) : Int).toNat)) (wrap64 (-t367))) else (none)) else (none)) else (none)) else (none)))) else (none)) else (dec_cut.j0 k (s.extract ((n : Int) : Int).toNat s.size) (s.extract 0 ((n : Int) : Int).toNat) 0)))) else (none)) else (none))) r := by
  simp only [Int.toNat_natCast];by_cases c0 : n = 0
  ·rw [hr0 c0];subst c0;refine Ev.congr (fun k => ?_) (Ev.now _);rw [if_pos (by omega),if_pos (by omega),if_pos (by rfl)]
  ·have hp := zVh s n;unfold suf at hp;by_cases cd : n < s.size ∧ bt s (n : Int) = 46
   ·obtain ⟨hm,g1,g2⟩ := h1 c0 cd.1 cd.2;have hdg2 := zJV s (n + 1) m hsz hm;have hm1 := hm.1;have hm2 := hm.2.1;have hse := zYe s n;have hso := zYY s n;unfold suf at hse hso hdg2;rw [decide_eq_true cd] at hp;by_cases cm : m = n + 1
    ·rw [g1 cm];refine Ev.congr (fun k => ?_) (Ev.bind hdg2 (f := fun k t => if t = 0 then some (s.extract 0 n,(0 : Int),false) else none) (Ev.congr (fun k => by rw [if_pos (by omega)]) (Ev.now _)));rw [if_pos (by omega),if_pos (by omega),if_neg (by omega),hp,Option.bind_some,if_pos rfl,if_pos (by omega),hso]
     cases hq : dec_digits.f k (s.extract (n + 1) s.size) with
     | none => rfl
     | some t =>
      have ht : t = ((m - (n + 1) : Nat) : Int) := by
       obtain ⟨K,hK⟩ := hdg2
       have hup : ∀ z,dec_digits.f (k + z) (s.extract (n + 1) s.size) = some t := by
        intro z
        induction z with
        | zero => exact hq
        | succ z ih => exact dec_digits.mono _ _ _ ih
       have h5 := hK (k + K) (Nat.le_add_left ..);exact Option.some.inj ((hup K).symm.trans h5)
      rw [Option.bind_some,Option.bind_some,if_pos (by omega),if_pos (by omega)]
    ·have g := g2 cm;(have hw : wrap64 (1 + ((m - (n + 1) : Nat) : Int)) = ((m - n : Nat) : Int) := by rw [wrapB _ (by omega) (by omega)];omega);(have hw2 : wrap64 (-((m - (n + 1) : Nat) : Int)) = -((m - n - 1 : Nat) : Int) := by rw [wrapB _ (by omega) (by omega)];omega);have hmid := zHU s n 1 (m - n);have hsuf := zVx s n (m - n);unfold suf at hmid hsuf g;rw [show n + (m - n) = m by omega] at hmid hsuf
     refine Ev.congr (fun k => ?_) (Ev.bind hdg2 (f := fun k t => if t = 0 then some (s.extract 0 n,(0 : Int),false) else (if 1 ≤ (wrap64 (1 + t)) then (if (wrap64 (1 + t)) ≤ ((s.extract n s.size).size : Int) then (if (s.extract 0 n).size + ((s.extract n s.size).extract 1 ((wrap64 (1 + t)) : Int).toNat).size ≤ 9223372036854775807 then (if 0 ≤ (wrap64 (1 + t)) then (dec_cut.j0 k ((s.extract n s.size).extract ((wrap64 (1 + t)) : Int).toNat (s.extract n s.size).size) ((s.extract 0 n) ++ ((s.extract n s.size).extract 1 ((wrap64 (1 + t)) : Int).toNat)) (wrap64 (-t))) else (none)) else (none)) else (none)) else (none)))
      (Ev.congr (fun k => ?_) g))
     ·rw [if_pos (by omega),if_pos (by omega),if_neg (by omega),hp,Option.bind_some,if_pos rfl,if_pos (by omega),hso]
     ·rw [if_neg (by omega),hw,if_pos (by omega),if_pos (by omega),Int.toNat_natCast,hmid,ext_size s 0 n hn2,ext_size s (n + 1) m hm2,if_pos (by omega),if_pos (by omega),hsuf,hw2]
   ·have g := h2 c0 cd;rw [decide_eq_false cd] at hp;unfold suf at g;refine Ev.congr (fun k => ?_) g;rw [if_pos (by omega),if_pos (by omega),if_neg (by omega),hp,Option.bind_some,if_neg (by decide)]
 refine Ev.congr (fun k => ?_) (Ev.bind hdg (f := fun k t364 => (if (0 : Int) ≤ t364 then (if t364 ≤ (s.size : Int) then (if t364 = 0 then (some (s.extract 0 (t364 : Int).toNat,(0 : Int),false)) else ((strings_HasPrefix.f (s.extract (t364 : Int).toNat s.size) (⟨#[46]⟩ : ByteArray)).bind fun t366 => (if t366 = true then (if 1 ≤ ((s.extract (t364 : Int).toNat s.size).size : Int) then ((dec_digits.f k ((s.extract (t364 : Int).toNat s.size).extract 1 (s.extract (t364 : Int).toNat s.size).size)).bind fun t367 => (if t367 = 0 then (some (s.extract 0 (t364 : Int).toNat,0,false)) else (if 1 ≤ (wrap64 (1 + t367)) then (if (wrap64 (1 + t367)) ≤ ((s.extract (t364 : Int).toNat s.size).size : Int) then (if (s.extract 0 (t364 : Int).toNat).size + ((s.extract (t364 : Int).toNat s.size).extract 1 ((wrap64 (1 + t367)) : Int).toNat).size ≤ 9223372036854775807 then (if 0 ≤ (wrap64 (1 + t367)) then (dec_cut.j0 k ((s.extract (t364 : Int).toNat s.size).extract ((wrap64 (1 + t367)) : Int).toNat (s.extract (t364 : Int).toNat s.size).size) ((s.extract 0 (t364 : Int).toNat) ++ ((s.extract (t364 : Int).toNat s.size).extract 1 ((wrap64 (1 + t367)) : Int).toNat)) (wrap64 (-t367))) else (none)) else (none)) else (none)) else (none)))) else (none)) else (dec_cut.j0 k (s.extract (t364 : Int).toNat s.size) (s.extract 0 (t364 : Int).toNat) 0)))) else (none)) else (none))) hbody)
 rfl
end Go.Proofs.YtongfmeediokmaaGreatDoor.Pure
end
section
namespace Go.Proofs.YtongfmeediokmaaGreatDoor.Pure
open Go.RowKit Go.Proofs.YtongfmeediokmaaGreatDoor.Pr Go.Proofs.YtongfmeediokmaaGreatDoorW.PrintWords Go.Proofs.YtongfmeediokmaaGreatDoorW.PrintLast Go.Proofs.YtongfmeediokmaaGreatDoorW.PrintMore
def dg (x : Nat) : Int := ((48 + x % 10 : Nat) : Int)
def ds (x : Nat) : List Int := if x = 0 then [] else ds (x / 10) ++ [dg x]
termination_by x
decreasing_by omega
def dl : Nat → Nat → List Int
 | 0,_ => []
 | m + 1,x => dl m (x / 10) ++ [dg x]
def strip (x : Nat) : Nat := if x ≠ 0 ∧ x % 10 = 0 then strip (x / 10) else x
termination_by x
decreasing_by omega
theorem zYF : ds 0 = [] := by rw [ds];rfl
theorem zYX {x : Nat} (h : x ≠ 0) : ds x = ds (x / 10) ++ [dg x] := by rw [ds,if_neg h]
theorem zZy {x : Nat} (h : x ≠ 0) (h1 : x % 10 = 0) : strip x = strip (x / 10) := by rw [strip,if_pos ⟨h,h1⟩]
theorem zKk {x : Nat} (h1 : x % 10 ≠ 0) : strip x = x := by rw [strip,if_neg (fun h => h1 h.2)]
theorem zQY : ∀ (m x : Nat),(dl m x).length = m
 | 0,_ => rfl
 | m + 1,x => by rw [dl,List.length_append,zQY m];rfl
theorem dl_ds : ∀ (m x : Nat),10 ^ m ≤ x → x < 10 ^ (m + 1) → dl (m + 1) x = ds x
 | 0,x,h1,h2 => by
  rw [Nat.pow_zero] at h1;rw [Nat.pow_succ,Nat.pow_zero] at h2;rw [zYX (by omega),show x / 10 = 0 by omega,zYF,dl,dl]
 | m + 1,x,h1,h2 => by
  rw [Nat.pow_succ] at h1 h2;rw [dl,zYX (by have : 0 < 10 ^ m := Nat.pow_pos (by decide);omega),dl_ds m (x / 10) (by omega) (by omega)]
theorem zZZ (n x : Nat) : ∀ j,dl (n + j) (x * 10 ^ j) = dl n x ++ List.replicate j 48
 | 0 => by rw [Nat.pow_zero,Nat.mul_one,List.replicate_zero,List.append_nil,Nat.add_zero]
 | j + 1 => by
  (have e1 : x * 10 ^ (j + 1) = 10 * (x * 10 ^ j) := by rw [Nat.pow_succ,← Nat.mul_assoc,Nat.mul_comm]);rw [← Nat.add_assoc,dl,e1,show 10 * (x * 10 ^ j) / 10 = x * 10 ^ j by omega,zZZ n x j,List.replicate_succ',List.append_assoc];unfold dg;rw [show 10 * (x * 10 ^ j) % 10 = 0 by omega]
  rfl
theorem zGo (i y t : Nat) (h : t ≤ 9) : dl (i + 1) (10 * y + t) = dl i y ++ [((48 + t : Nat) : Int)] := by
 rw [dl,show (10 * y + t) / 10 = y by omega];unfold dg;rw [show (10 * y + t) % 10 = t by omega]
theorem dg_in (x : Nat) : 48 ≤ dg x ∧ dg x ≤ 57 := by unfold dg;omega
theorem zHK : ∀ (m x : Nat),x < 10 ^ m → (ds x).length ≤ m
 | 0,x,h => by rw [Nat.pow_zero] at h;rw [show x = 0 by omega,zYF];exact Nat.le_refl _
 | m + 1,x,h => by
  by_cases h0 : x = 0
  ·rw [h0,zYF];exact Nat.zero_le _
  ·rw [Nat.pow_succ] at h;rw [zYX h0,List.length_append];have := zHK m (x / 10) (by omega);simp only [List.length_cons,List.length_nil];omega
theorem zJy {m x : Nat} (h1 : 10 ^ m ≤ x) (h2 : x < 10 ^ (m + 1)) : (ds x).length = m + 1 := by rw [← dl_ds m x h1 h2,zQY]
def nb (n : Int) : UInt8 := UInt8.ofNat n.toNat
theorem zKl (l : List Int) : (strOfNums l).data.toList = l.map nb := rfl
theorem zBl (l : List Int) (a : ByteArray) (h : a.data.toList = l.map nb) : a = strOfNums l := zYQ (by unfold bytes;rw [h,zKl])
theorem zVz (l m : List Int) : strOfNums (l ++ m) = strOfNums l ++ strOfNums m := (zBl _ _ (by rw [show (strOfNums l ++ strOfNums m).data.toList = (strOfNums l).data.toList ++ (strOfNums m).data.toList from bytes_append _ _,zKl,zKl,List.map_append])).symm
theorem zXX (l : List Int) : (strOfNums l).size = l.length := by
 have h := zQE (strOfNums l);rw [show bytes (strOfNums l) = l.map nb from rfl,List.length_map] at h;exact h.symm
theorem nb_dg (x : Nat) : (nb (dg x) == 48) = decide (x % 10 = 0) := by
 unfold nb dg;rw [Int.toNat_natCast];have hx : x % 10 < 10 := Nat.mod_lt _ (by decide);generalize x % 10 = t at hx;(have ht : t = 0 ∨ t = 1 ∨ t = 2 ∨ t = 3 ∨ t = 4 ∨ t = 5 ∨ t = 6 ∨ t = 7 ∨ t = 8 ∨ t = 9 := by omega);rcases ht with rfl | rfl | rfl | rfl | rfl | rfl | rfl | rfl | rfl | rfl <;> decide
theorem zVu (l : List UInt8) (b c : UInt8) : Lib.trimRightB (l ++ [b]) c = if (b == c) = true then Lib.trimRightB l c else l ++ [b] := by
 unfold Lib.trimRightB;rw [List.reverse_append,List.reverse_singleton,List.singleton_append,List.dropWhile_cons];by_cases h : (b == c) = true
 ·rw [if_pos h,if_pos h]
 ·rw [if_neg h,if_neg h,List.reverse_cons,List.reverse_reverse]
theorem zVv : ∀ (n x : Nat),x ≤ n → Lib.trimRightB ((ds x).map nb) 48 = (ds (strip x)).map nb
 | 0,x,h => by rw [show x = 0 by omega,strip_zero',zYF];rfl
 | n + 1,x,h => by
  by_cases h0 : x = 0
  ·rw [h0,strip_zero',zYF];rfl
  ·rw [zYX h0,List.map_append,List.map_cons,List.map_nil,zVu,nb_dg];by_cases h1 : x % 10 = 0
   ·rw [if_pos (decide_eq_true h1),zVv n (x / 10) (by omega),zZy h0 h1]
   ·rw [if_neg (by rw [decide_eq_false h1];decide),zKk h1,zYX h0,List.map_append,List.map_cons,List.map_nil]
where strip_zero' : strip 0 = 0 := by rw [strip,if_neg (fun h => h.1 rfl)]
theorem zKf (x : Nat) : zBk (strOfNums (ds x)) 48 = strOfNums (ds (strip x)) := zBl _ _ (zVv x x (Nat.le_refl _))
theorem zKj : ∀ (n x : Nat),x ≤ n → x ≠ 0 → strip x ≠ 0 ∧ strip x % 10 ≠ 0 ∧ ∃ z,x = strip x * 10 ^ z
 | 0,x,h,h0 => absurd (by omega) h0
 | n + 1,x,h,h0 => by
  by_cases h1 : x % 10 = 0
  ·obtain ⟨g1,g2,z,g3⟩ := zKj n (x / 10) (by omega) (by omega);rw [zZy h0 h1];refine ⟨g1,g2,z + 1,?_⟩;rw [Nat.pow_succ,← Nat.mul_assoc,← g3];omega
  ·rw [zKk h1];exact ⟨h0,h1,0,by omega⟩
theorem set_mid {α : Type} (b v : α) (c : List α) : ∀ a : List α,(a ++ b :: c).set a.length v = a ++ v :: c
 | [] => rfl
 | x :: a => by rw [List.cons_append,List.length_cons,List.set_cons_succ,set_mid b v c a,List.cons_append]
theorem zGc (b : Int) (c : List Int) : ∀ a : List Int,(a ++ b :: c).getD a.length 0 = b
 | [] => rfl
 | x :: a => by rw [List.cons_append,List.length_cons,List.getD_cons_succ,zGc b c a]
theorem zJl (a : List Int) (b : Int) (c : List Int) (i : Nat) (h : a.length = i) : rd (a ++ b :: c) (i : Int) = b := by rw [zYa,← h,zGc]
theorem zWy (L : List Int) (e x6 : Int) (h : L.length ≤ 1000000) : Ev (fun k => dec_tidy.j1 k L e x6 false) (zBk (strOfNums L) 48,e) := by
 refine Ev.step (f := fun _ => some (zBk (strOfNums L) 48,e)) (fun k => ?_) (Ev.now _);rw [dec_tidy.j1,if_neg (by decide),strings_TrimRight.f,if_pos (by rw [zXX];omega),if_pos rfl,Option.bind_some]
theorem zWV (i : Nat) (h : i ≤ 1000000) : wrap64 (((i + 1 : Nat) : Int) - 1) = (i : Int) := by rw [wrapB _ (by omega) (by omega)];omega
theorem zVw : ∀ (i y t j : Nat) (e : Int),y < 10 ^ i → t ≤ 10 → 10 ^ (i + j) ≤ (10 * y + t) * 10 ^ j → i + j ≤ 1000 → -100000 ≤ e → e ≤ 100000 →
  Ev (fun k => dec_tidy.l0 k (dl i y ++ ((48 + t : Nat) : Int) :: List.replicate j 48) e (i : Int)) (strOfNums (ds (strip ((10 * y + t) * 10 ^ j))),if (10 * y + t) * 10 ^ j = 10 ^ (i + 1 + j) then e + 1 else e) := by
 intro i
 induction i with
 | zero =>
  intro y t j e hy ht hV hij he he2;rw [Nat.pow_zero] at hy;(obtain rfl : y = 0 := by omega);by_cases h9 : t ≤ 9
  ·have hVlt : (10 * 0 + t) * 10 ^ j < 10 ^ (0 + 1 + j) := by
    rw [show 0 + 1 + j = j + 1 by omega,Nat.pow_succ,Nat.mul_comm (10 ^ j) 10];exact Nat.mul_lt_mul_of_pos_right (by omega) (Nat.pow_pos (by decide))
   rw [if_neg (Nat.ne_of_lt hVlt)]
   have hL : dl 0 0 ++ ((48 + t : Nat) : Int) :: List.replicate j 48 = ds ((10 * 0 + t) * 10 ^ j) := by
    have h1 := zZZ 1 (10 * 0 + t) j;rw [zGo 0 0 t h9,List.append_assoc] at h1;rw [← dl_ds j _ (by rw [Nat.zero_add] at hV;exact hV) (by rw [show j + 1 = 0 + 1 + j by omega];exact hVlt),Nat.add_comm j 1,h1]
    rfl
   have hend := zWy (dl 0 0 ++ ((48 + t : Nat) : Int) :: List.replicate j 48) e ((0 : Nat) : Int) (by simp only [List.length_append,List.length_cons,List.length_replicate,zQY];omega);rw [hL,zKf,← hL] at hend;refine Ev.step (fun k => ?_) hend;rw [dec_tidy.l0,if_pos (by omega),if_pos (by omega),if_pos (by simp only [List.length_append,List.length_cons,List.length_replicate,zQY];omega),zJl _ _ _ 0 rfl,decide_eq_false (by omega)]
  ·(obtain rfl : t = 10 := by omega);(have hVe : (10 * 0 + 10) * 10 ^ j = 10 ^ (0 + 1 + j) := by rw [show 0 + 1 + j = j + 1 by omega,Nat.pow_succ,Nat.mul_comm (10 ^ j) 10]);rw [if_pos hVe]
   have hL : [49] ++ (48 :: List.replicate j 48) = ds ((10 * 0 + 10) * 10 ^ j) := by
    have h1 := zZZ 1 1 (j + 1);rw [show (1 : Nat) * 10 ^ (j + 1) = (10 * 0 + 10) * 10 ^ j by rw [hVe,Nat.one_mul,show 0 + 1 + j = j + 1 by omega]] at h1;rw [← dl_ds (j + 1) _ (by rw [hVe,show 0 + 1 + j = j + 1 by omega];exact Nat.le_refl _) (by rw [hVe];exact Nat.pow_lt_pow_right (by decide) (by omega)),Nat.add_comm (j + 1) 1,h1,List.replicate_succ]
    rfl
   have hend := zWy ([49] ++ (48 :: List.replicate j 48)) (e + 1) (-1) (by simp only [List.length_append,List.length_cons,List.length_replicate,List.length_nil];omega);rw [hL,zKf,← hL] at hend;refine Ev.step (f := fun k => dec_tidy.j1 k (dl 0 0 ++ ((48 + 10 : Nat) : Int) :: List.replicate j 48) e ((0 : Nat) : Int) true) (fun k => ?_) (Ev.step (f := fun k => dec_tidy.l0 k ([49] ++ (48 :: List.replicate j 48)) (e + 1) (-1)) (fun k => ?_) (Ev.step (f := fun k => dec_tidy.j1 k ([49] ++ (48 :: List.replicate j 48)) (e + 1) (-1) false) (fun k => ?_) hend))
   ·rw [dec_tidy.l0,if_pos (by omega),if_pos (by omega),if_pos (by simp only [List.length_append,List.length_cons,List.length_replicate,zQY];omega),zJl _ _ _ 0 rfl,decide_eq_true (by omega)]
   ·rw [dec_tidy.j1,if_pos rfl,if_pos (by omega),if_pos (by simp only [List.length_append,List.length_cons,List.length_replicate,zQY];omega),Option.bind_some,if_neg (by omega),Option.bind_some,if_pos (by simp only [List.length_append,List.length_cons,List.length_replicate,zQY,List.length_set,List.length_nil];omega),wrapB _ (by omega) (by omega),wrapB _ (by omega) (by omega)]
    rfl
   ·rw [dec_tidy.l0,if_neg (by omega)]
 | succ i ih =>
  intro y t j e hy ht hV hij he he2;by_cases h9 : t ≤ 9
  ·have hVlt : (10 * y + t) * 10 ^ j < 10 ^ (i + 1 + 1 + j) := by
    rw [Nat.pow_add,Nat.pow_succ,Nat.mul_comm (10 ^ (i + 1)) 10];exact Nat.mul_lt_mul_of_pos_right (by omega) (Nat.pow_pos (by decide))
   rw [if_neg (Nat.ne_of_lt hVlt)]
   have hL : dl (i + 1) y ++ ((48 + t : Nat) : Int) :: List.replicate j 48 = ds ((10 * y + t) * 10 ^ j) := by
    have h1 := zZZ (i + 1 + 1) (10 * y + t) j;rw [zGo (i + 1) y t h9,List.append_assoc] at h1;rw [← dl_ds (i + 1 + j) _ hV (by rw [show i + 1 + j + 1 = i + 1 + 1 + j by omega];exact hVlt),show i + 1 + j + 1 = i + 1 + 1 + j by omega,h1]
    rfl
   have hend := zWy (dl (i + 1) y ++ ((48 + t : Nat) : Int) :: List.replicate j 48) e ((i + 1 : Nat) : Int) (by simp only [List.length_append,List.length_cons,List.length_replicate,zQY];omega);rw [hL,zKf,← hL] at hend;refine Ev.step (fun k => ?_) hend;rw [dec_tidy.l0,if_pos (by omega),if_pos (by omega),if_pos (by simp only [List.length_append,List.length_cons,List.length_replicate,zQY];omega),zJl _ _ _ (i + 1) (zQY _ _),decide_eq_false (by omega)]
  ·(obtain rfl : t = 10 := by omega);have hi := ih (y / 10) (y % 10 + 1) (j + 1) e (by rw [Nat.pow_succ] at hy;omega) (by omega) ?_ (by omega) he he2
   ·have eV : (10 * (y / 10) + (y % 10 + 1)) * 10 ^ (j + 1) = (10 * y + 10) * 10 ^ j := by
     rw [show 10 * (y / 10) + (y % 10 + 1) = y + 1 by omega,Nat.pow_succ,Nat.mul_comm (10 ^ j) 10,← Nat.mul_assoc]
     congr 1
     omega
    rw [eV,show i + 1 + (j + 1) = i + 1 + 1 + j by omega] at hi
    have eL : dl i (y / 10) ++ ((48 + (y % 10 + 1) : Nat) : Int) :: List.replicate (j + 1) 48 = (dl i (y / 10) ++ dg y :: (48 :: List.replicate j 48)).set i ((dg y + 1) % 256) := by
     have h1 := set_mid (dg y) ((dg y + 1) % 256) (48 :: List.replicate j 48) (dl i (y / 10));rw [zQY] at h1;rw [h1,List.replicate_succ]
     congr 2
     unfold dg;omega
    rw [eL] at hi
    have eM : (dl (i + 1) y ++ ((48 + 10 : Nat) : Int) :: List.replicate j 48).set (i + 1) 48 = dl i (y / 10) ++ dg y :: (48 :: List.replicate j 48) := by
     have h1 := set_mid ((48 + 10 : Nat) : Int) 48 (List.replicate j 48) (dl (i + 1) y);rw [zQY] at h1;rw [h1,dl,List.append_assoc]
     rfl
    refine Ev.step (f := fun k => dec_tidy.j1 k (dl (i + 1) y ++ ((48 + 10 : Nat) : Int) :: List.replicate j 48) e ((i + 1 : Nat) : Int) true) (fun k => ?_) (Ev.step (f := fun k => dec_tidy.l0 k ((dl i (y / 10) ++ dg y :: (48 :: List.replicate j 48)).set i ((dg y + 1) % 256)) e (i : Int)) (fun k => ?_) hi)
    ·rw [dec_tidy.l0,if_pos (by omega),if_pos (by omega),if_pos (by simp only [List.length_append,List.length_cons,List.length_replicate,zQY];omega),zJl _ _ _ (i + 1) (zQY _ _),decide_eq_true (by omega)]
    ·rw [dec_tidy.j1,if_pos rfl,if_pos (by omega),if_pos (by simp only [List.length_append,List.length_cons,List.length_replicate,zQY];omega),Option.bind_some,if_pos (by omega),zWV i (by omega),if_pos (by omega),if_pos (by simp only [List.length_append,List.length_cons,List.length_replicate,zQY];omega),Int.toNat_natCast,Int.toNat_natCast,eM,zJl _ _ _ i (zQY _ _)]
   ·have eV : (10 * (y / 10) + (y % 10 + 1)) * 10 ^ (j + 1) = (10 * y + 10) * 10 ^ j := by
     rw [show 10 * (y / 10) + (y % 10 + 1) = y + 1 by omega,Nat.pow_succ,Nat.mul_comm (10 ^ j) 10,← Nat.mul_assoc]
     congr 1
     omega
    rw [eV,show i + (j + 1) = i + 1 + j by omega];exact hV
theorem zHS (m y t : Nat) (e : Int) (hy : y < 10 ^ m) (ht : t ≤ 10) (hX : 10 ^ m ≤ 10 * y + t) (hm : m ≤ 1000) (he : -100000 ≤ e) (he2 : e ≤ 100000) :
  Ev (fun k => dec_tidy.f k (dl m y ++ [((48 + t : Nat) : Int)]) e) (strOfNums (ds (strip (10 * y + t))),if 10 * y + t = 10 ^ (m + 1) then e + 1 else e) := by
 have h := zVw m y t 0 e hy ht (by rw [Nat.add_zero,Nat.pow_zero,Nat.mul_one];exact hX) (by omega) he he2;rw [Nat.pow_zero,Nat.mul_one,Nat.add_zero] at h;refine Ev.congr (fun k => ?_) h;unfold dec_tidy.f;rw [List.length_append,zQY,List.length_singleton,zWV m (by omega)]
 rfl
end Go.Proofs.YtongfmeediokmaaGreatDoor.Pure
end
section
namespace Go.Proofs.YtongfmeediokmaaGreatDoor.Flo
open Go Ieee
theorem zHl {x K m S A B : Nat} (hK : 0 < K) (hS : 0 < S) (h : x * K = m * S) : m * B < A * K ↔ x * B < A * S := by
 rw [← Nat.mul_lt_mul_left (a := S) hS,← Nat.mul_lt_mul_left (a := K) (b := x * B) hK];rw [show S * (m * B) = (m * S) * B by rw [Nat.mul_comm m S,Nat.mul_assoc],← h,show x * K * B = K * (x * B) by rw [Nat.mul_comm x K,Nat.mul_assoc],show S * (A * K) = K * (A * S) by rw [Nat.mul_comm A K,Nat.mul_left_comm,Nat.mul_comm A S]]
theorem zBI {x K m S A B : Nat} (hK : 0 < K) (hS : 0 < S) (h : x * K = m * S) : m * B = A * K ↔ x * B = A * S := by
 constructor
 ·intro g
  refine Nat.eq_of_mul_eq_mul_left hK ?_
  rw [show K * (x * B) = (x * K) * B by rw [Nat.mul_comm x K,Nat.mul_assoc],h,Nat.mul_right_comm,g,Nat.mul_assoc,Nat.mul_comm K S,← Nat.mul_assoc,Nat.mul_comm]
 ·intro g
  refine Nat.eq_of_mul_eq_mul_left hS ?_
  rw [show S * (m * B) = (m * S) * B by rw [Nat.mul_comm m S,Nat.mul_assoc],← h,Nat.mul_right_comm,g,show S * (A * K) = A * S * K by rw [Nat.mul_comm A K,Nat.mul_left_comm,Nat.mul_comm K,Nat.mul_comm S A]]
theorem zGq {x K m S A B : Nat} (hK : 0 < K) (hS : 0 < S) (h : x * K = m * S) : A * K < m * B ↔ A * S < x * B := by
 rw [← Nat.mul_lt_mul_left (a := S) hS,← Nat.mul_lt_mul_left (a := K) (b := A * S) hK];rw [show S * (m * B) = (m * S) * B by rw [Nat.mul_comm m S,Nat.mul_assoc],← h,show x * K * B = K * (x * B) by rw [Nat.mul_comm x K,Nat.mul_assoc],show S * (A * K) = K * (A * S) by rw [Nat.mul_comm A K,Nat.mul_left_comm,Nat.mul_comm A S]]
structure Sp (a R S D U : Nat) : Prop where
 hS : 0 < S
 hR : R * K = (2 * units a) * S
 hD : D * K = (units a - units (a - 1)) * S
 hU : U * K = (units (a + 1) - units a) * S
theorem zVq {a : Nat} (h : 0 < a) : 0 < units a := by
 have h1 := zXU h;omega
theorem sp_U {a R S D U : Nat} (h : Sp a R S D U) : 0 < U := by
 have h1 := zYR a;have h2 : 0 < (units (a + 1) - units a) * S := Nat.mul_pos (by omega) h.hS;rw [← h.hU] at h2;exact Nat.pos_of_mul_pos_right h2
theorem zBm {a R S D U : Nat} (h : Sp a R S D U) : 2 * D ≤ R := by
 refine Nat.le_of_mul_le_mul_right (c := K) ?_ K_pos;rw [Nat.mul_assoc,h.hD,h.hR,Nat.mul_assoc];exact Nat.mul_le_mul_left _ (Nat.mul_le_mul_right _ (Nat.sub_le _ _))
theorem sp_lo {a R S D U : Nat} (h : Sp a R S D U) (ha : 0 < a) : (R - D) * K = mid (a - 1) * S := by
 have h1 : units (a - 1) < units a := zXU (by omega);rw [Nat.sub_mul,h.hR,h.hD,← Nat.sub_mul];unfold mid;rw [show a - 1 + 1 = a by omega]
 congr 1
 omega
theorem sp_hi {a R S D U : Nat} (h : Sp a R S D U) : (R + U) * K = mid a * S := by
 have h1 := zYR a;rw [Nat.add_mul,h.hR,h.hU,← Nat.add_mul];unfold mid
 congr 1
 omega
theorem zJC {a R S D U A B : Nat} (h : Sp a R S D U) (ha : 0 < a) : Above A B a ↔ ((R - D) * B < A * S ∨ ((R - D) * B = A * S ∧ a % 2 = 0)) := by
 unfold Above;rw [zHl K_pos h.hS (sp_lo h ha),zBI K_pos h.hS (sp_lo h ha)];constructor
 ·rintro (h0 | h0 | h0)
  ·omega
  ·exact .inl h0
  ·exact .inr h0
 ·rintro (h0 | h0)
  ·exact .inr (.inl h0)
  ·exact .inr (.inr h0)
theorem zWY {a R S D U A B : Nat} (h : Sp a R S D U) : Under A B a ↔ (A * S < (R + U) * B ∨ (A * S = (R + U) * B ∧ a % 2 = 0)) := by
 unfold Under;rw [zGq K_pos h.hS (sp_hi h),eq_comm,zBI K_pos h.hS (sp_hi h),eq_comm]
def Far (r up s : Nat) (ev : Bool) : Prop := s < r + up ∨ (s = r + up ∧ ev = true)
def Low (r dn : Nat) (ev : Bool) : Prop := r < dn ∨ (r = dn ∧ ev = true)
instance (r up s : Nat) (ev : Bool) : Decidable (Far r up s ev) := by unfold Far;infer_instance
instance (r dn : Nat) (ev : Bool) : Decidable (Low r dn ev) := by unfold Low;infer_instance
theorem zYS {a b c d x y : Nat} (ha : 0 < a) (hd : 0 < d) (hb : 0 < b) (hc : 0 < c) (h : a * d = b * c) : x * a < y * b ↔ x * c < y * d := by
 rw [← Nat.mul_lt_mul_left (a := d) hd,← Nat.mul_lt_mul_left (a := b) (b := x * c) hb];rw [show d * (x * a) = x * (a * d) by rw [Nat.mul_left_comm,Nat.mul_comm d a],h,show b * (x * c) = x * (b * c) by rw [Nat.mul_left_comm],show d * (y * b) = b * (y * d) by rw [Nat.mul_comm y b,Nat.mul_left_comm,Nat.mul_comm d y]]
theorem zBt {a b c d x y : Nat} (ha : 0 < a) (hd : 0 < d) (hb : 0 < b) (hc : 0 < c) (h : a * d = b * c) : x * a = y * b ↔ x * c = y * d := by
 have h1 := zYS (x := x) (y := y) ha hd hb hc h;have h2 := zYS (a := b) (b := a) (c := d) (d := c) (x := y) (y := x) hb hc ha hd h.symm;omega
theorem zZh {e : Int} {p q m : Nat} (he : e = (q : Int) - p) : loN (e - m) * 10 ^ q = 10 ^ (e - m).toNat * (10 ^ p * 10 ^ m) := by
 unfold loN;rw [← Nat.pow_add,← Nat.pow_add,← Nat.pow_add]
 congr 1
 omega
theorem zQF (n : Nat) : 0 < 10 ^ n := Nat.pow_pos (by decide)
theorem zFl {a R S D U Q ρ p q m : Nat} {e : Int} (h : Sp a R S D U) (ha : 0 < a) (he : e = (q : Int) - p) (hQ : R * 10 ^ p * 10 ^ m = Q * (S * 10 ^ q) + ρ) :
  Above (upN Q (e - m)) (loN (e - m)) a ↔ Low ρ (D * 10 ^ p * 10 ^ m) (a % 2 == 0) := by
 have hD2 := zBm h;have hc := zZh (m := m) he;rw [zJC h ha];unfold upN;rw [show Q * 10 ^ (e - (m : Int)).toNat * S = Q * S * 10 ^ (e - (m : Int)).toNat by rw [Nat.mul_right_comm]];rw [zYS (zYs _) (zQF q) (zQF _) (Nat.mul_pos (zQF p) (zQF m)) hc,zBt (zYs _) (zQF q) (zQF _) (Nat.mul_pos (zQF p) (zQF m)) hc];(have e1 : (R - D) * (10 ^ p * 10 ^ m) = R * 10 ^ p * 10 ^ m - D * 10 ^ p * 10 ^ m := by rw [Nat.sub_mul,Nat.mul_assoc,Nat.mul_assoc]);have e2 : D * 10 ^ p * 10 ^ m ≤ R * 10 ^ p * 10 ^ m := Nat.mul_le_mul_right _ (Nat.mul_le_mul_right _ (by omega));rw [e1,hQ,show Q * S * 10 ^ q = Q * (S * 10 ^ q) by rw [Nat.mul_assoc]];rw [hQ] at e2;unfold Low;simp only [beq_iff_eq];omega
theorem zFt {a R S D U Q ρ p q m : Nat} {e : Int} (h : Sp a R S D U) (he : e = (q : Int) - p) (hQ : R * 10 ^ p * 10 ^ m = Q * (S * 10 ^ q) + ρ) :
  Under (upN (Q + 1) (e - m)) (loN (e - m)) a ↔ Far ρ (U * 10 ^ p * 10 ^ m) (S * 10 ^ q) (a % 2 == 0) := by
 have hc := zZh (m := m) he;rw [zWY h];unfold upN;rw [show (Q + 1) * 10 ^ (e - (m : Int)).toNat * S = (Q + 1) * S * 10 ^ (e - (m : Int)).toNat by rw [Nat.mul_right_comm]];rw [zYS (zQF _) (Nat.mul_pos (zQF p) (zQF m)) (zYs _) (zQF q) hc.symm,zBt (zQF _) (Nat.mul_pos (zQF p) (zQF m)) (zYs _) (zQF q) hc.symm];(have e1 : (R + U) * (10 ^ p * 10 ^ m) = Q * (S * 10 ^ q) + ρ + U * 10 ^ p * 10 ^ m := by rw [Nat.add_mul,← Nat.mul_assoc,hQ,← Nat.mul_assoc U]);rw [e1,show (Q + 1) * S * 10 ^ q = Q * (S * 10 ^ q) + S * 10 ^ q by rw [Nat.mul_assoc,Nat.add_mul,Nat.one_mul]];unfold Far;simp only [beq_iff_eq];omega
theorem zVs {a R S D U Q ρ p q m : Nat} {e : Int} (h : Sp a R S D U) (he : e = (q : Int) - p) (hQ : R * 10 ^ p * 10 ^ m = Q * (S * 10 ^ q) + ρ) :
  Under (upN Q (e - m)) (loN (e - m)) a := by
 have hc := zZh (m := m) he;rw [zWY h];unfold upN;rw [show Q * 10 ^ (e - (m : Int)).toNat * S = Q * S * 10 ^ (e - (m : Int)).toNat by rw [Nat.mul_right_comm]]
 refine .inl ?_
 rw [zYS (zQF _) (Nat.mul_pos (zQF p) (zQF m)) (zYs _) (zQF q) hc.symm];(have e1 : (R + U) * (10 ^ p * 10 ^ m) = Q * (S * 10 ^ q) + ρ + U * 10 ^ p * 10 ^ m := by rw [Nat.add_mul,← Nat.mul_assoc,hQ,← Nat.mul_assoc U]);have hu : 0 < U * 10 ^ p * 10 ^ m := Nat.mul_pos (Nat.mul_pos (sp_U h) (zQF _)) (zQF _);rw [e1,Nat.mul_assoc];omega
theorem zVj {a R S D U Q ρ p q m : Nat} {e : Int} (h : Sp a R S D U) (ha : 0 < a) (he : e = (q : Int) - p) (hQ : R * 10 ^ p * 10 ^ m = Q * (S * 10 ^ q) + ρ) (hρ : ρ < S * 10 ^ q) :
  Above (upN (Q + 1) (e - m)) (loN (e - m)) a := by
 have hc := zZh (m := m) he;rw [zJC h ha];unfold upN;rw [show (Q + 1) * 10 ^ (e - (m : Int)).toNat * S = (Q + 1) * S * 10 ^ (e - (m : Int)).toNat by rw [Nat.mul_right_comm]]
 refine .inl ?_
 rw [zYS (zYs _) (zQF q) (zQF _) (Nat.mul_pos (zQF p) (zQF m)) hc]
 have e1 : (R - D) * (10 ^ p * 10 ^ m) ≤ Q * (S * 10 ^ q) + ρ := by
  rw [← hQ,← Nat.mul_assoc];exact Nat.mul_le_mul_right _ (Nat.mul_le_mul_right _ (Nat.sub_le _ _))
 rw [show (Q + 1) * S * 10 ^ q = Q * (S * 10 ^ q) + S * 10 ^ q by rw [Nat.mul_assoc,Nat.add_mul,Nat.one_mul]];omega
theorem zKW (a : Nat) : ∃ j q : Nat,a = j * 4503599627370496 + q ∧ q < 9007199254740992 ∧ (j = 0 ∨ 4503599627370496 ≤ q) ∧ units a = q * 2 ^ j ∧ units (a + 1) = (q + 1) * 2 ^ j := by
 by_cases h : a < 4503599627370496
 ·refine ⟨0,a,by omega,by omega,.inl rfl,?_,?_⟩
  ·have := zXF 0 a (by omega) (.inl rfl)
   rwa [Nat.zero_mul,Nat.zero_add] at this
  ·have := zXF 0 (a + 1) (by omega) (.inl rfl)
   rwa [Nat.zero_mul,Nat.zero_add] at this
 ·refine ⟨a / 4503599627370496 - 1,4503599627370496 + a % 4503599627370496,by omega,by omega,.inr (by omega),?_,?_⟩
  ·have := zXF (a / 4503599627370496 - 1) (4503599627370496 + a % 4503599627370496) (by omega) (.inr (by omega))
   rwa [show (a / 4503599627370496 - 1) * 4503599627370496 + (4503599627370496 + a % 4503599627370496) = a by omega] at this
  ·have := zXF (a / 4503599627370496 - 1) (4503599627370496 + a % 4503599627370496 + 1) (by omega) (.inr (by omega))
   rwa [show (a / 4503599627370496 - 1) * 4503599627370496 + (4503599627370496 + a % 4503599627370496 + 1) = a + 1 by omega] at this
theorem zKX {a j q : Nat} (h : a = j * 4503599627370496 + q) (hq : q < 9007199254740992) (hj : j = 0 ∨ 4503599627370496 ≤ q) (h0 : 0 < a) :
  (units a - units (a - 1) = 2 ^ j) ∨ (q = 4503599627370496 ∧ 0 < j ∧ 2 * (units a - units (a - 1)) = 2 ^ j) := by
 (have e0 : units a = q * 2 ^ j := by rw [h];exact zXF j q (by omega) hj);by_cases hc : j = 0 ∨ 4503599627370496 ≤ q - 1
 ·left
  have e1 : units (a - 1) = (q - 1) * 2 ^ j := by
   rw [show a - 1 = j * 4503599627370496 + (q - 1) by omega];exact zXF j (q - 1) (by omega) hc
  rw [e0,e1,← Nat.sub_mul,show q - (q - 1) = 1 by omega,Nat.one_mul]
 ·right;(have hq2 : q = 4503599627370496 := by omega);obtain ⟨i,rfl⟩ : ∃ i,j = i + 1 := ⟨j - 1,by omega⟩
  have e1 : units (a - 1) = 9007199254740991 * 2 ^ i := by
   rw [show a - 1 = i * 4503599627370496 + 9007199254740991 by omega];exact zXF i 9007199254740991 (by omega) (.inr (by omega))
  refine ⟨hq2,by omega,?_⟩;rw [e0,e1,hq2,Nat.pow_succ];omega
theorem zBn {a R S D U : Nat} (h : Sp a R S D U) (ha : 0 < a) : ∃ q : Nat,0 < q ∧ q < 9007199254740992 ∧ R = 2 * q * U ∧ (D = U ∨ (q = 4503599627370496 ∧ 2 * D = U)) ∧ (a < 10 → q = a) ∧ (10 ≤ a → 10 ≤ q) := by
 obtain ⟨j,q,hf,hq,hj,e0,e1⟩ := zKW a;have hU := h.hU;rw [e0,e1,Nat.add_mul,Nat.one_mul,Nat.add_sub_cancel_left] at hU;have hR := h.hR;rw [e0] at hR;refine ⟨q,?_,hq,?_,?_,?_,?_⟩
 ·rcases Nat.eq_zero_or_pos q with h0 | h0
  ·rcases hj with hj | hj
   ·rw [hj,h0] at hf;omega
   ·omega
  ·exact h0
 ·refine Nat.eq_of_mul_eq_mul_right K_pos ?_
  rw [hR,Nat.mul_assoc (2 * q) U,hU];simp only [Nat.mul_assoc]
 ·rcases zKX hf hq hj ha with g | ⟨g1,g2,g3⟩
  ·left
   refine Nat.eq_of_mul_eq_mul_right K_pos ?_
   rw [h.hD,g,hU]
  ·right;refine ⟨g1,Nat.eq_of_mul_eq_mul_right K_pos ?_⟩;rw [Nat.mul_assoc,h.hD,hU,← g3,Nat.mul_assoc]
 ·intro h10;rcases hj with hj | hj
  ·rw [hj] at hf;omega
  ·omega
 ·intro h10;rcases hj with hj | hj
  ·rw [hj] at hf;omega
  ·omega
theorem sp_UR {a R S D U : Nat} (h : Sp a R S D U) (ha : 0 < a) : 2 * U ≤ R := by
 obtain ⟨q,h1,h2,h3,_⟩ := zBn h ha;rw [h3];exact Nat.mul_le_mul_right _ (by omega)
def kT : Nat := 322
def Least (x y : Nat) (e : Int) : Prop := y * 10 ^ e.toNat ≤ x * 10 ^ (-e).toNat
instance (x y : Nat) (e : Int) : Decidable (Least x y e) := by unfold Least;infer_instance
theorem sp_R {a R S D U : Nat} (h : Sp a R S D U) (ha : 0 < a) : 0 < R := by
 have := sp_U h;have := sp_UR h ha;omega
def Stop (ρ dn up s : Nat) (ev : Bool) : Prop := Low ρ dn ev ∨ Far ρ up s ev
instance (ρ dn up s : Nat) (ev : Bool) : Decidable (Stop ρ dn up s ev) := by unfold Stop;infer_instance
def pickX (Q ρ dn up s : Nat) (ev : Bool) : Nat := if Far ρ up s ev ∧ (¬ Low ρ dn ev ∨ s < 2 * ρ ∨ (2 * ρ = s ∧ Q % 2 = 1)) then Q + 1 else Q
def gen (r s dn up : Nat) (ev : Bool) : Nat → Nat → Nat × Nat
 | 0,m => (m,0)
 | n + 1,m => if Stop (r * 10 ^ m % s) (dn * 10 ^ m) (up * 10 ^ m) s ev then (m,pickX (r * 10 ^ m / s) (r * 10 ^ m % s) (dn * 10 ^ m) (up * 10 ^ m) s ev) else gen r s dn up ev n (m + 1)
theorem zZN {a R S D U p q : Nat} (ev : Bool) (h : Sp a R S D U) (ha : 0 < a) (hge : S * 10 ^ q ≤ R * 10 ^ p) : Stop (R * 10 ^ p * 10 ^ 16 % (S * 10 ^ q)) (D * 10 ^ p * 10 ^ 16) (U * 10 ^ p * 10 ^ 16) (S * 10 ^ q) ev := by
 obtain ⟨f,f0,f1,f2,f3,_,_⟩ := zBn h ha;have hs : 0 < S * 10 ^ q := Nat.mul_pos h.hS (zQF q);have hρ := Nat.mod_lt (R * 10 ^ p * 10 ^ 16) hs;obtain ⟨s,hse⟩ : ∃ s,s = S * 10 ^ q := ⟨_,rfl⟩;rw [← hse] at hs hρ hge ⊢;obtain ⟨ρ,hρe⟩ : ∃ ρ,ρ = R * 10 ^ p * 10 ^ 16 % s := ⟨_,rfl⟩;rw [← hρe] at hρ ⊢;obtain ⟨u,hu⟩ : ∃ u,u = U * 10 ^ p * 10 ^ 16 := ⟨_,rfl⟩
 have hr : R * 10 ^ p * 10 ^ 16 = 2 * f * u := by
  rw [f2,hu];simp only [Nat.mul_assoc]
 (have hb : s * 10 ^ 16 ≤ 2 * f * u := by rw [← hr];exact Nat.mul_le_mul_right _ hge);(have hu0 : 0 < u := by rw [hu];exact Nat.mul_pos (Nat.mul_pos (sp_U h) (zQF _)) (zQF _));rw [← hu];(have e16 : (10 : Nat) ^ 16 = 10000000000000000 := by decide);rw [e16] at hb;unfold Stop Low Far;rcases f3 with f3 | ⟨f3,f4⟩
 ·(have hd : D * 10 ^ p * 10 ^ 16 = u := by rw [f3,hu]);rw [hd];have : 2 * f * u ≤ 2 * 9007199254740991 * u := Nat.mul_le_mul_right _ (by omega);omega
 ·rw [f3] at hb;omega
theorem zBD (r s dn up : Nat) (ev : Bool) : ∀ (n m : Nat),(∃ j,m ≤ j ∧ j < m + n ∧ Stop (r * 10 ^ j % s) (dn * 10 ^ j) (up * 10 ^ j) s ev) →
  m ≤ (gen r s dn up ev n m).1 ∧ (gen r s dn up ev n m).1 < m + n ∧ (gen r s dn up ev n m).2 = pickX (r * 10 ^ (gen r s dn up ev n m).1 / s) (r * 10 ^ (gen r s dn up ev n m).1 % s) (dn * 10 ^ (gen r s dn up ev n m).1) (up * 10 ^ (gen r s dn up ev n m).1) s ev ∧ Stop (r * 10 ^ (gen r s dn up ev n m).1 % s) (dn * 10 ^ (gen r s dn up ev n m).1) (up * 10 ^ (gen r s dn up ev n m).1) s ev
 | 0,m,h => by obtain ⟨j,h1,h2,_⟩ := h;omega
 | n + 1,m,h => by
  rw [gen];by_cases hs : Stop (r * 10 ^ m % s) (dn * 10 ^ m) (up * 10 ^ m) s ev
  ·rw [if_pos hs];exact ⟨Nat.le_refl _,by show m < m + (n + 1);omega,rfl,hs⟩
  ·rw [if_neg hs];obtain ⟨j,h1,h2,h3⟩ := h;(have hj : m ≠ j := fun hj => hs (hj ▸ h3));obtain ⟨g1,g2,g3,g4⟩ := zBD r s dn up ev n (m + 1) ⟨j,by omega,by omega,h3⟩;exact ⟨by omega,by omega,g3,g4⟩
end Go.Proofs.YtongfmeediokmaaGreatDoor.Flo
end
section
namespace Go.Proofs.YtongfmeediokmaaGreatDoor.Pure
open Go.RowKit Go.Proofs.YtongfmeediokmaaGreatDoor.Pr Go.Proofs.YtongfmeediokmaaGreatDoorW.PrintWords Go.Proofs.YtongfmeediokmaaGreatDoorW.PrintLast Go.Proofs.YtongfmeediokmaaGreatDoorW.PrintMore Go.Proofs.YtongfmeediokmaaGreatDoor.Flo
theorem zXy {x m : Nat} (h : x < 2 ^ m) (hm : m ≤ 1000000) : (toB x).length ≤ 1048000 := by
 have := zXq h;omega
theorem zFH (x : Nat) (h : (toB x).length ≤ 1047000) : Ev (fun k => b_up.f k (toB x) 1) (toB (x * 2)) := by
 have hup := up_ev x 1 (.inr (by decide)) (by omega);rw [Nat.pow_one] at hup;exact hup
theorem zYM (x : Nat) (h : (toB x).length ≤ 1048576) : Ev (fun k => b_times.f k (toB x) 10 0) (toB (x * 10)) := by
 have := zZf x 10 0 (by decide) (by decide) h;exact this
theorem zZG (r up s m : Nat) (ev : Bool) (hm : m ≤ 900000) (hr : r < 2 ^ m) (hu : up < 2 ^ m) (hs : s < 2 ^ m) : Ev (fun k => dec_high.f k (toB s) (toB r) (toB up) ev) (decide (Far r up s ev)) := by
 (have hsum : r + up < 2 ^ (m + 1) := by rw [Nat.pow_succ];omega);have l1 := zXy hr (by omega);have l2 := zXy hu (by omega);have l3 := zXy hs (by omega);have l4 := zXy hsum (by omega);obtain ⟨K1,h1⟩ := zFd r up (by omega) (by omega);obtain ⟨c,⟨K2,h2⟩,c1,c2⟩ := zWq (r + up) s (by omega) (by omega);refine ⟨K1 + K2,fun k hk => ?_⟩;dsimp only;(try dsimp only at h1);(try dsimp only at h2);(try dsimp only at h3);(try dsimp only at h4);rw [dec_high.f,h1 k (by omega),Option.bind_some,h2 k (by omega),Option.bind_some]
 congr 1
 unfold Far
 cases ev
 ·rw [Bool.false_and,Bool.or_false]
  refine decide_eq_decide.2 ?_
  simp only [Bool.false_eq_true,and_false,or_false];omega
 ·rw [Bool.true_and,← Bool.decide_or]
  refine decide_eq_decide.2 ?_
  simp only [and_true];omega
def outF (mx : Nat × Nat) (e : Int) : ByteArray × Int := (strOfNums (ds (strip mx.2)),if mx.2 = 10 ^ (mx.1 + 1) then e + 1 else e)
theorem zVZ (m y t : Nat) (e : Int) (hy : y < 10 ^ m) (ht : t ≤ 10) (hX : 10 ^ m ≤ 10 * y + t) (hm : m ≤ 1000) (he : -100000 ≤ e) (he2 : e ≤ 100000) (z : Int) (hz : z = ((48 + t : Nat) : Int)) :
  Ev (fun k => (dec_tidy.f k (dl m y ++ [z]) e).bind fun b => some (b.1,b.2)) (outF (m,10 * y + t) e) := by
 have h := zHS m y t e hy ht hX hm he he2;rw [hz];exact Ev.bind h (Ev.now _)
theorem zGz (n : Nat) (h : n ≤ 9) : (48 + (n : Int)) % 256 = ((48 + n : Nat) : Int) := by omega
theorem zHs (n : Nat) (h : n ≤ 9) : (48 + (((n : Int) + 1) % 256)) % 256 = ((48 + (n + 1) : Nat) : Int) := by omega
theorem zFS (m Q ρ dn up s M : Nat) (ev : Bool) (e : Int) (hM : M ≤ 800000) (hρ : ρ < 2 ^ M) (hs : s < 2 ^ M) (hQ : Q / 10 < 10 ^ m) (hm : m ≤ 1000) (he : -100000 ≤ e) (he2 : e ≤ 100000)
  (hstop : Stop ρ dn up s ev) (hX : 10 ^ m ≤ pickX Q ρ dn up s ev) :
  Ev (fun k => d_s.j5 k e (dl m (Q / 10)) ((Q % 10 : Nat) : Int) (decide (Low ρ dn ev)) (decide (Far ρ up s ev)) (toB ρ) (toB s) (toB dn) (toB up) ev) (outF (m,pickX Q ρ dn up s ev) e) := by
 (have hn : Q % 10 ≤ 9 := by have := Nat.mod_lt Q (show 0 < 10 by decide);omega);have hQe : 10 * (Q / 10) + Q % 10 = Q := Nat.div_add_mod Q 10;have hup := zFH ρ (by have := zXq hρ;omega);have l4 := zXy (show ρ * 2 < 2 ^ (M + 1) by rw [Nat.pow_succ];omega) (by omega);have l3 := zXy hs (by omega);obtain ⟨K1,h1⟩ := hup;obtain ⟨c,⟨K2,h2⟩,c1,c2⟩ := zWq (ρ * 2) s (by omega) (by omega);have hlen : (dl m (Q / 10)).length < 140737488355328 := by rw [zQY];omega
 have main : Ev (fun k => d_s.j6 k e (dl m (Q / 10)) ((Q % 10 : Nat) : Int) (decide (Low ρ dn ev)) (decide (Far ρ up s ev)) false (toB ρ) (toB s) (toB dn) (toB up) ev) (outF (m,pickX Q ρ dn up s ev) e) := by
  have hodd : Int.tmod ((Q % 10 : Nat) : Int) 2 = 1 ↔ Q % 2 = 1 := by
   rw [Int.tmod_eq_emod_of_nonneg (by omega)];omega
  have up1 : pickX Q ρ dn up s ev = Q + 1 → Ev (fun k => (dec_tidy.f k (dl m (Q / 10) ++ [(48 + ((((Q % 10 : Nat) : Int) + 1) % 256)) % 256]) e).bind fun b => some (b.1,b.2)) (outF (m,pickX Q ρ dn up s ev) e) := by
   intro hx;have := zVZ m (Q / 10) (Q % 10 + 1) e hQ (by omega) (by omega) hm he he2 _ (zHs (Q % 10) hn);rw [show 10 * (Q / 10) + (Q % 10 + 1) = pickX Q ρ dn up s ev by omega] at this;exact this
  have up0 : pickX Q ρ dn up s ev = Q → Ev (fun k => (dec_tidy.f k (dl m (Q / 10) ++ [(48 + ((Q % 10 : Nat) : Int)) % 256]) e).bind fun b => some (b.1,b.2)) (outF (m,pickX Q ρ dn up s ev) e) := by
   intro hx;have := zVZ m (Q / 10) (Q % 10) e hQ (by omega) (by omega) hm he he2 _ (zGz (Q % 10) hn);rw [show 10 * (Q / 10) + Q % 10 = pickX Q ρ dn up s ev by omega] at this;exact this
  by_cases hf : Far ρ up s ev
  ·by_cases hl : Low ρ dn ev
   ·by_cases hc : c > 0
    ·obtain ⟨K3,h3⟩ := up1 (by unfold pickX;rw [if_pos ⟨hf,.inr (.inl (by omega))⟩]);refine ⟨K1 + K2 + K3 + 1,fun k hk => ?_⟩;dsimp only;(try dsimp only at h1);(try dsimp only at h2);(try dsimp only at h3);(try dsimp only at h4);obtain ⟨k',rfl⟩ : ∃ k',k = k' + 1 := ⟨k - 1,by omega⟩;rw [d_s.j6,if_neg (by decide),h1 k' (by omega),Option.bind_some,h2 k' (by omega),Option.bind_some,if_pos (decide_eq_true hf),if_pos (decide_eq_true hl),if_pos hc,if_pos hlen];exact h3 k' (by omega)
    ·by_cases hc0 : c = 0
     ·by_cases ho : Int.tmod ((Q % 10 : Nat) : Int) 2 = 1
      ·obtain ⟨K3,h3⟩ := up1 (by unfold pickX;rw [if_pos ⟨hf,.inr (.inr ⟨by omega,hodd.1 ho⟩)⟩]);refine ⟨K1 + K2 + K3 + 1,fun k hk => ?_⟩;dsimp only;(try dsimp only at h1);(try dsimp only at h2);(try dsimp only at h3);(try dsimp only at h4);obtain ⟨k',rfl⟩ : ∃ k',k = k' + 1 := ⟨k - 1,by omega⟩;rw [d_s.j6,if_neg (by decide),h1 k' (by omega),Option.bind_some,h2 k' (by omega),Option.bind_some,if_pos (decide_eq_true hf),if_pos (decide_eq_true hl),if_neg hc,if_pos hc0,if_pos ho,if_pos hlen];exact h3 k' (by omega)
      ·obtain ⟨K3,h3⟩ := up0 (by
        unfold pickX;rw [if_neg];rintro ⟨_,h | h | ⟨_,h⟩⟩
        ·exact h hl
        ·omega
        ·exact ho (hodd.2 h))
       refine ⟨K1 + K2 + K3 + 1,fun k hk => ?_⟩;dsimp only;(try dsimp only at h1);(try dsimp only at h2);(try dsimp only at h3);(try dsimp only at h4);obtain ⟨k',rfl⟩ : ∃ k',k = k' + 1 := ⟨k - 1,by omega⟩;rw [d_s.j6,if_neg (by decide),h1 k' (by omega),Option.bind_some,h2 k' (by omega),Option.bind_some,if_pos (decide_eq_true hf),if_pos (decide_eq_true hl),if_neg hc,if_pos hc0,if_neg ho,if_pos hlen];exact h3 k' (by omega)
     ·obtain ⟨K3,h3⟩ := up0 (by
       unfold pickX;rw [if_neg];rintro ⟨_,h | h | ⟨h,_⟩⟩
       ·exact h hl
       ·omega
       ·omega)
      refine ⟨K1 + K2 + K3 + 1,fun k hk => ?_⟩;dsimp only;(try dsimp only at h1);(try dsimp only at h2);(try dsimp only at h3);(try dsimp only at h4);obtain ⟨k',rfl⟩ : ∃ k',k = k' + 1 := ⟨k - 1,by omega⟩;rw [d_s.j6,if_neg (by decide),h1 k' (by omega),Option.bind_some,h2 k' (by omega),Option.bind_some,if_pos (decide_eq_true hf),if_pos (decide_eq_true hl),if_neg hc,if_neg hc0,if_pos hlen];exact h3 k' (by omega)
   ·obtain ⟨K3,h3⟩ := up1 (by unfold pickX;rw [if_pos ⟨hf,.inl hl⟩]);refine ⟨K1 + K2 + K3 + 1,fun k hk => ?_⟩;dsimp only;(try dsimp only at h1);(try dsimp only at h2);(try dsimp only at h3);(try dsimp only at h4);obtain ⟨k',rfl⟩ : ∃ k',k = k' + 1 := ⟨k - 1,by omega⟩;rw [d_s.j6,if_neg (by decide),h1 k' (by omega),Option.bind_some,h2 k' (by omega),Option.bind_some,if_pos (decide_eq_true hf),if_neg (by rw [decide_eq_false hl];decide),if_pos hlen];exact h3 k' (by omega)
  ·obtain ⟨K3,h3⟩ := up0 (by unfold pickX;rw [if_neg (fun h => hf h.1)]);refine ⟨K1 + K2 + K3 + 1,fun k hk => ?_⟩;dsimp only;(try dsimp only at h1);(try dsimp only at h2);(try dsimp only at h3);(try dsimp only at h4);obtain ⟨k',rfl⟩ : ∃ k',k = k' + 1 := ⟨k - 1,by omega⟩;rw [d_s.j6,if_neg (by decide),h1 k' (by omega),Option.bind_some,h2 k' (by omega),Option.bind_some,if_neg (by rw [decide_eq_false hf];decide),if_pos hlen];exact h3 k' (by omega)
 refine Ev.step (fun k => ?_) main;rw [d_s.j5];by_cases hl : Low ρ dn ev
 ·rw [if_pos (decide_eq_true hl)]
 ·have hf : Far ρ up s ev := hstop.resolve_left hl;rw [if_neg (by rw [decide_eq_false hl];decide),decide_eq_true hf]
  rfl
theorem on_ev (m Q ρ dn up s M : Nat) (ev : Bool) (e : Int) (r : ByteArray × Int) (hM : M ≤ 800000) (hρ : ρ < 2 ^ M) (hd : dn < 2 ^ M) (hu : up < 2 ^ M) (hm : m ≤ 1000) (hstop : ¬ Stop ρ dn up s ev)
  (h : Ev (fun k => d_s.l2 k e (dl (m + 1) Q) (toB (ρ * 10)) (toB s) (toB (dn * 10)) (toB (up * 10)) ev) r) :
  Ev (fun k => d_s.j5 k e (dl m (Q / 10)) ((Q % 10 : Nat) : Int) (decide (Low ρ dn ev)) (decide (Far ρ up s ev)) (toB ρ) (toB s) (toB dn) (toB up) ev) r := by
 (have hn : Q % 10 ≤ 9 := by have := Nat.mod_lt Q (show 0 < 10 by decide);omega);(have hl : ¬ Low ρ dn ev := fun h => hstop (.inl h));(have hf : ¬ Far ρ up s ev := fun h => hstop (.inr h));have l1 := zXy hρ (by omega);have l2 := zXy hd (by omega);have l3 := zXy hu (by omega);obtain ⟨K1,h1⟩ := zYM ρ (by omega);obtain ⟨K2,h2⟩ := zYM dn (by omega);obtain ⟨K3,h3⟩ := zYM up (by omega);obtain ⟨K4,h4⟩ := h;have hlen : (dl m (Q / 10)).length < 140737488355328 := by rw [zQY];omega
 have eL : dl m (Q / 10) ++ [(48 + ((Q % 10 : Nat) : Int)) % 256] = dl (m + 1) Q := by
  rw [zGz _ hn,dl]
  rfl
 refine ⟨K1 + K2 + K3 + K4 + 2,fun k hk => ?_⟩;dsimp only;(try dsimp only at h1);(try dsimp only at h2);(try dsimp only at h3);(try dsimp only at h4);obtain ⟨k',rfl⟩ : ∃ k',k = k' + 1 + 1 := ⟨k - 2,by omega⟩;have g1 := h1 k' (by omega);have g2 := h2 k' (by omega);have g3 := h3 k' (by omega);have g4 := h4 k' (by omega);rw [d_s.j5,if_neg (by rw [decide_eq_false hl];decide),decide_eq_false hf,d_s.j6,if_pos (show (!false) = true from rfl),if_pos hlen];rw [g1,Option.bind_some,g2,Option.bind_some,g3,Option.bind_some,eL];exact g4
theorem zBJ (ρ dn up s M : Nat) (ev : Bool) (e : Int) (x8 : List Int) (n : Nat) (hn : n ≤ 9) (r : ByteArray × Int) (hM : M ≤ 800000) (hρ : ρ < s) (hs : 16 * s < 2 ^ M) (hd : dn < 2 ^ M) (hu : up < 2 ^ M)
  (h : Ev (fun k => d_s.j5 k e x8 (n : Int) (decide (Low ρ dn ev)) (decide (Far ρ up s ev)) (toB ρ) (toB s) (toB dn) (toB up) ev) r) :
  ∀ d c : Nat,c + d = n → Ev (fun k => d_s.l3 k e x8 (c : Int) (toB (d * s + ρ)) (toB s) (toB dn) (toB up) ev) r
 | 0,c,hc => by
  (obtain rfl : c = n := by omega);rw [Nat.zero_mul,Nat.zero_add];have l1 := zXy (show ρ < 2 ^ M by omega) (by omega);have l2 := zXy (show s < 2 ^ M by omega) (by omega);have l3 := zXy hd (by omega);obtain ⟨c1,⟨K1,h1⟩,a1,a2⟩ := zWq ρ s (by omega) (by omega);obtain ⟨c2,⟨K2,h2⟩,b1,b2⟩ := zWq ρ dn (by omega) (by omega);obtain ⟨K3,h3⟩ := zZG ρ up s M ev (by omega) (by omega) hu (by omega);obtain ⟨K4,h4⟩ := h;refine ⟨K1 + K2 + K3 + K4 + 1,fun k hk => ?_⟩;dsimp only;(try dsimp only at h1);(try dsimp only at h2);(try dsimp only at h3);(try dsimp only at h4);obtain ⟨k',rfl⟩ : ∃ k',k = k' + 1 := ⟨k - 1,by omega⟩;have g4 := h4 k' (by omega);rw [d_s.l3,h1 k' (by omega),Option.bind_some,if_neg (by omega),h2 k' (by omega),Option.bind_some,h3 k' (by omega),Option.bind_some,Option.bind_some,Option.bind_some];by_cases hlt : c2 < 0
  ·rw [if_pos hlt];rw [decide_eq_true (show Low ρ dn ev from .inl (b1.1 hlt))] at g4;exact g4
  ·rw [if_neg hlt]
   cases ev with
   | true =>
    rw [if_pos rfl]
    have e1 : (c2 == 0) = decide (Low ρ dn true) := by
     rw [show (c2 == 0) = decide (c2 = 0) from rfl]
     refine decide_eq_decide.2 ?_
     unfold Low;simp only [and_true];omega
    rw [e1];exact g4
   | false =>
    rw [if_neg (by decide)]
    have e1 : decide (Low ρ dn false) = false := by
     refine decide_eq_false ?_
     unfold Low;simp only [Bool.false_eq_true,and_false,or_false];omega
    rw [e1] at g4;exact g4
 | d + 1,c,hc => by
  have hds : d ≤ 9 := by omega
  have hsum : (d + 1) * s + ρ < 2 ^ M := by
   have : (d + 1) * s ≤ 10 * s := Nat.mul_le_mul_right _ (by omega);omega
  have l1 := zXy hsum (by omega);have l2 := zXy (show s < 2 ^ M by omega) (by omega);(have hge : s ≤ (d + 1) * s + ρ := by rw [Nat.succ_mul];omega);obtain ⟨c1,⟨K1,h1⟩,a1,a2⟩ := zWq ((d + 1) * s + ρ) s (by omega) (by omega);obtain ⟨K2,h2⟩ := zBx ((d + 1) * s + ρ) s hge (by omega);obtain ⟨K3,h3⟩ := zBJ ρ dn up s M ev e x8 n hn r hM hρ hs hd hu h d (c + 1) (by omega);refine ⟨K1 + K2 + K3 + 1,fun k hk => ?_⟩;dsimp only;(try dsimp only at h1);(try dsimp only at h2);(try dsimp only at h3);(try dsimp only at h4);obtain ⟨k',rfl⟩ : ∃ k',k = k' + 1 := ⟨k - 1,by omega⟩;have g2 := h2 k' (by omega);rw [show (d + 1) * s + ρ - s = d * s + ρ by rw [Nat.succ_mul];omega] at g2;rw [d_s.l3,h1 k' (by omega),Option.bind_some,if_pos (by omega),g2,Option.bind_some,show (((c : Int) + 1) % 256) = ((c + 1 : Nat) : Int) by omega];exact h3 k' (by omega)
theorem zVe (T s : Nat) (hs : 0 < s) : T * 10 / s / 10 = T / s ∧ (T * 10 / s % 10) * s + T * 10 % s = (T % s) * 10 := by
 have hρ := Nat.mod_lt T hs;have hT := Nat.div_add_mod T s;have h10 := Nat.div_add_mod (T % s * 10) s
 have e1 : T * 10 = T % s * 10 + s * (10 * (T / s)) := by
  rw [Nat.mul_left_comm];omega
 have hlt : T % s * 10 / s < 10 := Nat.div_lt_of_lt_mul (by omega);(have e2 : T * 10 / s = T % s * 10 / s + 10 * (T / s) := by rw [e1,Nat.add_mul_div_left _ _ hs]);(have e3 : T * 10 % s = T % s * 10 % s := by rw [e1,Nat.add_mul_mod_self_left]);rw [e2,e3];obtain ⟨x,hx⟩ : ∃ x,x = T % s * 10 / s := ⟨_,rfl⟩;rw [← hx] at hlt h10 ⊢;generalize T / s = y;constructor
 ·omega
 ·rw [show (x + 10 * y) % 10 = x by omega,Nat.mul_comm];exact h10
theorem zHB {x a b M : Nat} (h : x * 10 ^ b < 2 ^ M) (hab : a ≤ b) : x * 10 ^ a < 2 ^ M := Nat.lt_of_le_of_lt (Nat.mul_le_mul_left _ (Nat.pow_le_pow_right (by decide) hab)) h
theorem zHG (r s dn up M : Nat) (ev : Bool) (e : Int) (hs : 0 < s) (hr : r < 10 * s) (hM : M ≤ 800000) (hsM : 16 * s < 2 ^ M) (he : -100000 ≤ e) (he2 : e ≤ 100000) :
  ∀ n m : Nat,m + n ≤ 1000 → dn * 10 ^ (m + n) < 2 ^ M → up * 10 ^ (m + n) < 2 ^ M → (∃ j,m ≤ j ∧ j < m + n ∧ Stop (r * 10 ^ j % s) (dn * 10 ^ j) (up * 10 ^ j) s ev) →
  (s ≤ r ∨ (m = 0 ∧ Stop (r * 10 ^ 0 % s) (dn * 10 ^ 0) (up * 10 ^ 0) s ev ∧ 1 ≤ pickX (r * 10 ^ 0 / s) (r * 10 ^ 0 % s) (dn * 10 ^ 0) (up * 10 ^ 0) s ev)) →
  Ev (fun k => d_s.l2 k e (dl m (r * 10 ^ m / s / 10)) (toB ((r * 10 ^ m / s % 10) * s + r * 10 ^ m % s)) (toB s) (toB (dn * 10 ^ m)) (toB (up * 10 ^ m)) ev) (outF (gen r s dn up ev n m) e)
 | 0,m,_,_,_,h,_ => by obtain ⟨j,h1,h2,_⟩ := h;omega
 | n + 1,m,hmn,hd,hu,h,h0 => by
  have hρ := Nat.mod_lt (r * 10 ^ m) hs
  have hQ : r * 10 ^ m / s / 10 < 10 ^ m := by
   rw [Nat.div_div_eq_div_mul]
   refine Nat.div_lt_of_lt_mul ?_
   rw [Nat.mul_comm s 10];exact Nat.mul_lt_mul_of_pos_right hr (Nat.pow_pos (by decide))
  (have hn9 : r * 10 ^ m / s % 10 ≤ 9 := by have := Nat.mod_lt (r * 10 ^ m / s) (show 0 < 10 by decide);omega);have hdm := zHB hd (Nat.le_add_right m (n + 1));have hum := zHB hu (Nat.le_add_right m (n + 1))
  have main : Ev (fun k => d_s.j5 k e (dl m (r * 10 ^ m / s / 10)) ((r * 10 ^ m / s % 10 : Nat) : Int) (decide (Low (r * 10 ^ m % s) (dn * 10 ^ m) ev)) (decide (Far (r * 10 ^ m % s) (up * 10 ^ m) s ev)) (toB (r * 10 ^ m % s)) (toB s) (toB (dn * 10 ^ m)) (toB (up * 10 ^ m)) ev) (outF (gen r s dn up ev (n + 1) m) e) := by
   rw [gen];by_cases hst : Stop (r * 10 ^ m % s) (dn * 10 ^ m) (up * 10 ^ m) s ev
   ·rw [if_pos hst]
    refine zFS m (r * 10 ^ m / s) (r * 10 ^ m % s) (dn * 10 ^ m) (up * 10 ^ m) s M ev e hM (by omega) (by omega) hQ (by omega) he he2 hst ?_
    rcases h0 with h0 | ⟨h0,h1,h2⟩
    ·have : 10 ^ m ≤ r * 10 ^ m / s := by
      rw [Nat.le_div_iff_mul_le hs,Nat.mul_comm];exact Nat.mul_le_mul_right _ h0
     unfold pickX;split <;> omega
    ·rw [h0,Nat.pow_zero];rw [Nat.pow_zero] at h2;exact h2
   ·rw [if_neg hst];have hnx := zVe (r * 10 ^ m) s hs;rw [Nat.mul_assoc,← Nat.pow_succ] at hnx
    refine on_ev m (r * 10 ^ m / s) (r * 10 ^ m % s) (dn * 10 ^ m) (up * 10 ^ m) s M ev e _ hM (by omega) hdm hum (by omega) hst ?_
    have ih := zHG r s dn up M ev e hs hr hM hsM he he2 n (m + 1) (by omega) (by rw [show m + 1 + n = m + (n + 1) by omega];exact hd) (by rw [show m + 1 + n = m + (n + 1) by omega];exact hu) ?_ ?_
    ·rw [hnx.1,hnx.2,Nat.pow_succ,← Nat.mul_assoc,← Nat.mul_assoc] at ih;exact ih
    ·obtain ⟨j,h1,h2,h3⟩ := h;(have hj : m ≠ j := fun hj => hst (hj ▸ h3));exact ⟨j,by omega,by omega,h3⟩
    ·rcases h0 with h0 | ⟨h0,h1,_⟩
     ·exact .inl h0
     ·rw [h0] at hst;exact absurd h1 hst
  have hc := zBJ (r * 10 ^ m % s) (dn * 10 ^ m) (up * 10 ^ m) s M ev e (dl m (r * 10 ^ m / s / 10)) (r * 10 ^ m / s % 10) hn9 _ hM hρ hsM hdm hum main (r * 10 ^ m / s % 10) 0 (by omega);refine Ev.step (fun k => ?_) hc;rw [d_s.l2]
  rfl
theorem zGe {r up s : Nat} {ev : Bool} : Far (r * 10) (up * 10) (s * 10) ev ↔ Far r up s ev := by
 unfold Far;constructor
 ·rintro (h | ⟨h,h2⟩)
  ·exact .inl (by omega)
  ·exact .inr ⟨by omega,h2⟩
 ·rintro (h | ⟨h,h2⟩)
  ·exact .inl (by omega)
  ·exact .inr ⟨by omega,h2⟩
theorem zGf {r up s : Nat} {ev : Bool} (h : ¬ Far r up s ev) : r + up ≤ s := Nat.le_of_not_lt (fun g => h (.inl g))
theorem zFv (R S D U q M : Nat) (ev : Bool) (hU : 0 < U) (hD : D ≤ R) (hM : M ≤ 800000) (hsM : 16 * (S * 10 ^ q) < 2 ^ M) (hq : q ≤ 50000) :
  ∀ d p : Nat,p + d ≤ 50000 → S * 10 ^ q ≤ R * 10 ^ (p + d) → ¬ Far (R * 10 ^ p) (U * 10 ^ p) (S * 10 ^ (q + 1)) ev →
  ∃ p',p ≤ p' ∧ p' ≤ p + d ∧ Far (R * 10 ^ p') (U * 10 ^ p') (S * 10 ^ q) ev ∧ ¬ Far (R * 10 ^ p') (U * 10 ^ p') (S * 10 ^ (q + 1)) ev ∧
   ∀ res,Ev (fun k => d_s.l2 k ((q : Int) - p') ([] : List Int) (toB (R * 10 ^ p')) (toB (S * 10 ^ q)) (toB (D * 10 ^ p')) (toB (U * 10 ^ p')) ev) res →
    Ev (fun k => d_s.l1 k ((q : Int) - p) (toB (R * 10 ^ p)) (toB (S * 10 ^ q)) (toB (D * 10 ^ p)) (toB (U * 10 ^ p)) ev) res := by
 intro d
 induction d with
 | zero =>
  intro p hp hd hn;have hle := zGf hn;rw [Nat.pow_succ,← Nat.mul_assoc] at hle;have hU2 : 0 < U * 10 ^ p := Nat.mul_pos hU (zQF p);have hf : Far (R * 10 ^ p) (U * 10 ^ p) (S * 10 ^ q) ev := .inl (by rw [Nat.add_zero] at hd;omega);refine ⟨p,Nat.le_refl _,Nat.le_refl _,hf,hn,fun res h => ?_⟩;obtain ⟨K1,h1⟩ := zZG (R * 10 ^ p) (U * 10 ^ p) (S * 10 ^ q) M ev (by omega) (by omega) (by omega) (by omega);obtain ⟨K2,h2⟩ := h;refine ⟨K1 + K2 + 1,fun k hk => ?_⟩;dsimp only at h1 h2 ⊢;obtain ⟨k',rfl⟩ : ∃ k',k = k' + 1 := ⟨k - 1,by omega⟩;rw [d_s.l1,h1 k' (by omega),Option.bind_some,if_pos (decide_eq_true hf)];exact h2 k' (by omega)
 | succ d ih =>
  intro p hp hd hn;have hle := zGf hn;rw [Nat.pow_succ,← Nat.mul_assoc] at hle;have hDp : D * 10 ^ p ≤ R * 10 ^ p := Nat.mul_le_mul_right _ hD;by_cases hf : Far (R * 10 ^ p) (U * 10 ^ p) (S * 10 ^ q) ev
  ·refine ⟨p,Nat.le_refl _,by omega,hf,hn,fun res h => ?_⟩;obtain ⟨K1,h1⟩ := zZG (R * 10 ^ p) (U * 10 ^ p) (S * 10 ^ q) M ev (by omega) (by omega) (by omega) (by omega);obtain ⟨K2,h2⟩ := h;refine ⟨K1 + K2 + 1,fun k hk => ?_⟩;dsimp only at h1 h2 ⊢;obtain ⟨k',rfl⟩ : ∃ k',k = k' + 1 := ⟨k - 1,by omega⟩;rw [d_s.l1,h1 k' (by omega),Option.bind_some,if_pos (decide_eq_true hf)];exact h2 k' (by omega)
  ·obtain ⟨p',g1,g2,g3,g4,g5⟩ := ih (p + 1) (by omega) (by rw [show p + 1 + d = p + (d + 1) by omega];exact hd) (by
    rw [Nat.pow_succ,Nat.pow_succ,← Nat.mul_assoc,← Nat.mul_assoc,← Nat.mul_assoc,zGe]
    exact hf)
   refine ⟨p',by omega,by omega,g3,g4,fun res h => ?_⟩;obtain ⟨K0,h0⟩ := g5 res h;obtain ⟨K1,h1⟩ := zZG (R * 10 ^ p) (U * 10 ^ p) (S * 10 ^ q) M ev (by omega) (by omega) (by omega) (by omega);obtain ⟨K2,h2⟩ := zYM (R * 10 ^ p) (by have := zXy (show R * 10 ^ p < 2 ^ M by omega) (by omega);omega);obtain ⟨K3,h3⟩ := zYM (D * 10 ^ p) (by have := zXy (show D * 10 ^ p < 2 ^ M by omega) (by omega);omega);obtain ⟨K4,h4⟩ := zYM (U * 10 ^ p) (by have := zXy (show U * 10 ^ p < 2 ^ M by omega) (by omega);omega);refine ⟨K0 + K1 + K2 + K3 + K4 + 1,fun k hk => ?_⟩;dsimp only at h0 h1 h2 h3 h4 ⊢;obtain ⟨k',rfl⟩ : ∃ k',k = k' + 1 := ⟨k - 1,by omega⟩;have g0 := h0 k' (by omega);rw [Nat.pow_succ,← Nat.mul_assoc,← Nat.mul_assoc,← Nat.mul_assoc] at g0;rw [d_s.l1,h1 k' (by omega),Option.bind_some,if_neg (by rw [decide_eq_false hf];decide),h2 k' (by omega),Option.bind_some,h3 k' (by omega),Option.bind_some,h4 k' (by omega),Option.bind_some,wrapB _ (by omega) (by omega),show (q : Int) - p - 1 = (q : Int) - ((p + 1 : Nat) : Int) by omega];exact g0
theorem zFG (R S D U p M : Nat) (ev : Bool) (hM : M ≤ 800000) (hrM : R * 10 ^ p + U * 10 ^ p < 2 ^ M) (hp : p ≤ 50000) :
  ∀ d q : Nat,q + d ≤ 50000 → R * 10 ^ p + U * 10 ^ p < S * 10 ^ (q + 1 + d) → S * 10 ^ q < 2 ^ M →
  ∃ q',q ≤ q' ∧ q' ≤ q + d ∧ S * 10 ^ q' < 2 ^ M ∧ ¬ Far (R * 10 ^ p) (U * 10 ^ p) (S * 10 ^ (q' + 1)) ev ∧
   ∀ res,Ev (fun k => d_s.l1 k ((q' : Int) - p) (toB (R * 10 ^ p)) (toB (S * 10 ^ q')) (toB (D * 10 ^ p)) (toB (U * 10 ^ p)) ev) res →
    Ev (fun k => d_s.l0 k ((q : Int) - p) (toB (R * 10 ^ p)) (toB (S * 10 ^ q)) (toB (D * 10 ^ p)) (toB (U * 10 ^ p)) ev) res := by
 intro d
 induction d with
 | zero =>
  intro q hq hd hsM
  have hn : ¬ Far (R * 10 ^ p) (U * 10 ^ p) (S * 10 ^ (q + 1)) ev := by
   unfold Far;rw [Nat.add_zero] at hd;omega
  refine ⟨q,Nat.le_refl _,Nat.le_refl _,hsM,hn,fun res h => ?_⟩;(have e10 : S * 10 ^ q * 10 = S * 10 ^ (q + 1) := by rw [Nat.pow_succ,Nat.mul_assoc]);(have hb : S * 10 ^ (q + 1) < 2 ^ (M + 4) := by rw [← e10,Nat.pow_add];omega);obtain ⟨K1,h1⟩ := zZG (R * 10 ^ p) (U * 10 ^ p) (S * 10 ^ (q + 1)) (M + 4) ev (by omega) (by rw [Nat.pow_add];omega) (by rw [Nat.pow_add];omega) hb;obtain ⟨K2,h2⟩ := zYM (S * 10 ^ q) (by have := zXy hsM (by omega);omega);obtain ⟨K3,h3⟩ := h;refine ⟨K1 + K2 + K3 + 1,fun k hk => ?_⟩;dsimp only at h1 h2 h3 ⊢;obtain ⟨k',rfl⟩ : ∃ k',k = k' + 1 := ⟨k - 1,by omega⟩;rw [d_s.l0,h2 k' (by omega),Option.bind_some,e10,h1 k' (by omega),Option.bind_some,if_neg (by rw [decide_eq_false hn];decide)];exact h3 k' (by omega)
 | succ d ih =>
  intro q hq hd hsM;(have e10 : S * 10 ^ q * 10 = S * 10 ^ (q + 1) := by rw [Nat.pow_succ,Nat.mul_assoc]);(have hb : S * 10 ^ (q + 1) < 2 ^ (M + 4) := by rw [← e10,Nat.pow_add];omega);obtain ⟨K1,h1⟩ := zZG (R * 10 ^ p) (U * 10 ^ p) (S * 10 ^ (q + 1)) (M + 4) ev (by omega) (by rw [Nat.pow_add];omega) (by rw [Nat.pow_add];omega) hb;obtain ⟨K2,h2⟩ := zYM (S * 10 ^ q) (by have := zXy hsM (by omega);omega);dsimp only at h1 h2;by_cases hf : Far (R * 10 ^ p) (U * 10 ^ p) (S * 10 ^ (q + 1)) ev
  ·have hle : S * 10 ^ (q + 1) ≤ R * 10 ^ p + U * 10 ^ p := by
    rcases hf with hf | hf
    ·exact Nat.le_of_lt hf
    ·exact Nat.le_of_eq hf.1
   obtain ⟨q',g1,g2,g3,g4,g5⟩ := ih (q + 1) (by omega) (by rw [show q + 1 + 1 + d = q + 1 + (d + 1) by omega];exact hd) (by omega);refine ⟨q',by omega,by omega,g3,g4,fun res h => ?_⟩;obtain ⟨K3,h3⟩ := g5 res h;refine ⟨K1 + K2 + K3 + 1,fun k hk => ?_⟩;dsimp only at h3 ⊢;obtain ⟨k',rfl⟩ : ∃ k',k = k' + 1 := ⟨k - 1,by omega⟩;rw [d_s.l0,h2 k' (by omega),Option.bind_some,e10,h1 k' (by omega),Option.bind_some,if_pos (decide_eq_true hf),Option.bind_some,wrapB _ (by omega) (by omega),show (q : Int) - p + 1 = ((q + 1 : Nat) : Int) - p by omega];exact h3 k' (by omega)
  ·refine ⟨q,Nat.le_refl _,by omega,hsM,hf,fun res h => ?_⟩;obtain ⟨K3,h3⟩ := h;refine ⟨K1 + K2 + K3 + 1,fun k hk => ?_⟩;dsimp only at h3 ⊢;obtain ⟨k',rfl⟩ : ∃ k',k = k' + 1 := ⟨k - 1,by omega⟩;rw [d_s.l0,h2 k' (by omega),Option.bind_some,e10,h1 k' (by omega),Option.bind_some,if_neg (by rw [decide_eq_false hf];decide)];exact h3 k' (by omega)
end Go.Proofs.YtongfmeediokmaaGreatDoor.Pure
end
section
namespace Go.Proofs.YtongfmeediokmaaGreatDoor.Flo
theorem zHW {n j q P M : Nat} (hu : units n = q * 2 ^ j) (hu1 : units (n + 1) = (q + 1) * 2 ^ j) (hd : units n - units (n - 1) = 2 ^ j) (hM : 0 < M) (hK : P * K = 2 * 2 ^ j * M) : Sp n (q * 2 * P) (2 * M) P P := by
 refine ⟨by omega,?_,?_,?_⟩
 ·rw [Nat.mul_assoc,hK,hu,Nat.mul_assoc q 2,Nat.mul_left_comm q 2,Nat.mul_assoc 2 (q * 2 ^ j),Nat.mul_assoc q (2 ^ j),Nat.mul_assoc 2 (2 ^ j) M,Nat.mul_left_comm (2 ^ j) 2 M]
 ·rw [hK,hd,Nat.mul_left_comm,Nat.mul_assoc]
 ·rw [hK,hu,hu1,Nat.add_mul,Nat.one_mul,Nat.add_sub_cancel_left,Nat.mul_left_comm,Nat.mul_assoc]
theorem zHX {n j q P M : Nat} (hu : units n = q * 2 ^ j) (hu1 : units (n + 1) = (q + 1) * 2 ^ j) (hd : 2 * (units n - units (n - 1)) = 2 ^ j) (hM : 0 < M) (hK : P * K = 2 * 2 ^ j * M) : Sp n (q * 4 * P) (4 * M) P (2 * P) := by
 refine ⟨by omega,?_,?_,?_⟩
 ·rw [Nat.mul_assoc,hK,hu];generalize 2 ^ j = J;rw [show 2 * J * M = 2 * (J * M) from Nat.mul_assoc _ _ _,show 2 * (q * J) * (4 * M) = 2 * (4 * (q * (J * M))) by rw [Nat.mul_assoc,Nat.mul_left_comm (q * J) 4,Nat.mul_assoc q]];rw [show q * 4 * (2 * (J * M)) = 4 * (2 * (q * (J * M))) by rw [Nat.mul_comm q 4,Nat.mul_assoc,Nat.mul_left_comm q 2]];omega
 ·rw [hK,← hd];generalize units n - units (n - 1) = J;rw [show 2 * (2 * J) * M = 4 * (J * M) by rw [← Nat.mul_assoc,Nat.mul_assoc],Nat.mul_left_comm]
 ·rw [Nat.mul_assoc,hK,hu,hu1,Nat.add_mul,Nat.one_mul,Nat.add_sub_cancel_left];generalize 2 ^ j = J;rw [show 2 * (2 * J * M) = 4 * (J * M) by rw [Nat.mul_assoc 2 J M,← Nat.mul_assoc 2 2],Nat.mul_left_comm]
theorem zFJ (j : Nat) (e : Int) (he : (j : Int) = e + 1074) : 2 ^ e.toNat * K = 2 * 2 ^ j * 2 ^ (-e).toNat := by
 obtain ⟨E,hE,hK⟩ := K_exp;rw [hK,← Nat.pow_add,Nat.mul_comm 2,← Nat.pow_succ,← Nat.pow_add,show e.toNat + E = j + 1 + (-e).toNat by omega]
end Go.Proofs.YtongfmeediokmaaGreatDoor.Flo
end
section
namespace Go.Proofs.YtongfmeediokmaaGreatDoor.Pure
open Go.RowKit Go.Proofs.YtongfmeediokmaaGreatDoor.Pr Go.Proofs.YtongfmeediokmaaGreatDoorW.PrintWords Go.Proofs.YtongfmeediokmaaGreatDoorW.PrintLast Go.Proofs.YtongfmeediokmaaGreatDoorW.PrintMore Go.Proofs.YtongfmeediokmaaGreatDoor.Flo
theorem zBA {a : Nat} (h0 : 0 < rung a) (h1 : rung a < INF) : kindV a = if rung a < 4503599627370496 then 1 else 2 := by
 unfold INF at h1;unfold kindV nanB infB;rw [if_neg (by rw [decide_eq_true_iff];omega),if_neg (by omega),if_neg (by rw [decide_eq_true_iff];omega)]
theorem zBO (a : Nat) (h : a < 18446744073709551616) : Go.bits .and .u64 (a : Int) 2047 = ((a % 2048 : Nat) : Int) := by
 have := zYo a 2047 h (by decide);rw [show (2047 : Nat) = 2 ^ 11 - 1 from rfl,Nat.and_two_pow_sub_one_eq_mod] at this;exact this
theorem zVU (b : Nat) (h : b < 4503599627370496) : Go.bits .or .u64 (b : Int) 4503599627370496 = ((4503599627370496 + b : Nat) : Int) := by
 have h1 := zYl b 4503599627370496 (by omega) (by decide);have h2 := Nat.two_pow_add_eq_or_of_lt (i := 52) h 1;rw [Nat.mul_one] at h2;rw [Nat.or_comm,show (4503599627370496 : Nat) = 2 ^ 52 from rfl,← h2] at h1;exact h1
theorem zGY (a : Nat) (ha : a < 18446744073709551616) (h0 : 0 < rung a) (h1 : rung a < INF) : ∃ (j q : Nat) (b : Bool),rung a = j * 4503599627370496 + q ∧ q < 9007199254740992 ∧ (j = 0 ∨ 4503599627370496 ≤ q) ∧ j ≤ 2045 ∧ flo_Parts.f (a : Int) = some (b,(j : Int) - 1074,(q : Int)) := by
 have hk : flo_kind.f (a : Int) = some (kindV a) := by
  unfold flo_kind.f;rw [if_pos (by omega),Int.toNat_natCast]
 have hf := zBA h0 h1;have hr : rung a = a % 9223372036854775808 := rfl;unfold INF at h1;by_cases h : rung a < 4503599627370496
 ·rw [if_pos h] at hf;refine ⟨0,rung a,((a : Int) / 9223372036854775808 == 1),by omega,by omega,.inl rfl,by omega,?_⟩;rw [flo_Parts.f,hk,hf,Option.bind_some,if_pos rfl,zZv a ha,show a % 4503599627370496 = rung a by omega]
  rfl
 ·rw [if_neg h] at hf;refine ⟨rung a / 4503599627370496 - 1,4503599627370496 + a % 4503599627370496,((a : Int) / 9223372036854775808 == 1),by omega,by omega,.inr (by omega),by omega,?_⟩;(have e1 : ((a : Int) / 4503599627370496) = ((a / 4503599627370496 : Nat) : Int) := by omega);rw [flo_Parts.f,hk,hf,Option.bind_some,if_neg (by decide),if_pos rfl,zZv a ha,zVU _ (by omega),e1,zBO _ (by omega),wrapB ((a / 4503599627370496 % 2048 : Nat) : Int) (by omega) (by omega),wrapB _ (by omega) (by omega),show (((a / 4503599627370496 % 2048 : Nat) : Int) - 1075) = ((rung a / 4503599627370496 - 1 : Nat) : Int) - 1074 by omega]
theorem of_ev (n : Nat) (h : n < 18446744073709551616) : Ev (fun k => dec_of.f k (n : Int)) (toB n) := by
 have hp : Parts [(n : Int) % 4294967296,((n : Int) / 4294967296) % 4294967296] := by
  intro x hx;rcases List.mem_cons.1 hx with rfl | hx
  ·omega
  ·rw [List.mem_singleton.1 hx];omega
 have hv : valB [(n : Int) % 4294967296,((n : Int) / 4294967296) % 4294967296] = n := by
  simp only [valB];omega
 have ht := zKe 2 _ rfl hp (by decide);rw [hv] at ht;have h1 : Ev (fun k => b_trim.f k [(n : Int) % 4294967296,((n : Int) / 4294967296) % 4294967296]) (toB n) := Ev.congr (fun k => rfl) ht;have h2 : Ev (fun k => (b_trim.f k [(n : Int) % 4294967296,((n : Int) / 4294967296) % 4294967296]).bind fun t => some t) (toB n) := Ev.bind h1 (Ev.now _);exact Ev.congr (fun k => rfl) h2
theorem zJd (e : Int) (x s d u B : Nat) (hx : x ≠ 0) (hs : s ≠ 0) (hd : d ≠ 0) (hu : u ≠ 0) (he : -1074 ≤ e) (he2 : e ≤ 971) (hx2 : x < 2 ^ B) (hs2 : s < 2 ^ B) (hd2 : d < 2 ^ B) (hu2 : u < 2 ^ B) (hB : B ≤ 100) :
  Ev (fun k => dec_spans.j1 k e (toB x) (toB s) (toB d) (toB u)) (toB (x * 2 ^ e.toNat),toB (s * 2 ^ (-e).toNat),toB (d * 2 ^ e.toNat),toB (u * 2 ^ e.toNat)) := by
 have l1 := zXq hx2;have l2 := zXq hs2;have l3 := zXq hd2;have l4 := zXq hu2;by_cases h : e ≥ 0
 ·obtain ⟨K1,h1⟩ := up_ev x e.toNat (.inl hx) (by omega);obtain ⟨K2,h2⟩ := up_ev d e.toNat (.inl hd) (by omega);obtain ⟨K3,h3⟩ := up_ev u e.toNat (.inl hu) (by omega);refine ⟨K1 + K2 + K3 + 1,fun k hk => ?_⟩;dsimp only at h1 h2 h3 ⊢;obtain ⟨k',rfl⟩ : ∃ k',k = k' + 1 := ⟨k - 1,by omega⟩;have g1 := h1 k' (by omega);have g2 := h2 k' (by omega);have g3 := h3 k' (by omega);rw [show ((e.toNat : Nat) : Int) = e by omega] at g1 g2 g3;rw [dec_spans.j1,if_pos h,g1,Option.bind_some,g2,Option.bind_some,g3,Option.bind_some,show (-e).toNat = 0 by omega,Nat.pow_zero,Nat.mul_one]
 ·obtain ⟨K1,h1⟩ := up_ev s (-e).toNat (.inl hs) (by omega);refine ⟨K1 + 1,fun k hk => ?_⟩;dsimp only at h1 ⊢;obtain ⟨k',rfl⟩ : ∃ k',k = k' + 1 := ⟨k - 1,by omega⟩;have g1 := h1 k' (by omega);rw [show (((-e).toNat : Nat) : Int) = -e by omega] at g1;rw [dec_spans.j1,if_neg h,wrapB _ (by omega) (by omega),g1,Option.bind_some,show e.toNat = 0 by omega,Nat.pow_zero,Nat.mul_one,Nat.mul_one,Nat.mul_one]
theorem zBT {n j : Nat} (h : n = j * 4503599627370496 + 4503599627370496) (hj : 0 < j) : 2 * (units n - units (n - 1)) = 2 ^ j := by
 obtain ⟨i,rfl⟩ : ∃ i,j = i + 1 := ⟨j - 1,by omega⟩;have e0 : units n = 4503599627370496 * 2 ^ (i + 1) := by rw [h];exact zXF (i + 1) 4503599627370496 (by omega) (.inr (by omega))
 have e1 : units (n - 1) = 9007199254740991 * 2 ^ i := by
  rw [show n - 1 = i * 4503599627370496 + 9007199254740991 by omega];exact zXF i 9007199254740991 (by omega) (.inr (by omega))
 rw [e0,e1,Nat.pow_succ];omega
theorem lt_up {x a b B : Nat} (h : x < 2 ^ a) (hb : a + b ≤ B) : x * 2 ^ b < 2 ^ B := by
 refine Nat.lt_of_lt_of_le (Nat.mul_lt_mul_of_pos_right h (Nat.two_pow_pos b)) ?_
 rw [← Nat.pow_add];exact Nat.pow_le_pow_right (by decide) hb
theorem zGN (a : Nat) (ha : a < 18446744073709551616) (h0 : 0 < rung a) (h1 : rung a < INF) (B : Nat) (hB : B = 1100) :
  ∃ R S D U : Nat,Sp (rung a) R S D U ∧ R < 2 ^ B ∧ S < 2 ^ B ∧ D < 2 ^ B ∧ U < 2 ^ B ∧ Ev (fun k => dec_spans.f k (a : Int)) (toB R,toB S,toB D,toB U) := by
 obtain ⟨j,q,b,hr,hq,hjq,hj,hp⟩ := zGY a ha h0 h1;obtain ⟨n,hn⟩ : ∃ n,n = rung a := ⟨_,rfl⟩;rw [← hn] at hr h0 h1 ⊢;obtain ⟨e,he⟩ : ∃ e : Int,e = (j : Int) - 1074 := ⟨_,rfl⟩;rw [← he] at hp;have hK := zFJ j e (by omega);(have hq0 : q ≠ 0 := by omega);(have u0 : units n = q * 2 ^ j := by rw [hr];exact zXF j q (by omega) hjq);(have u1 : units (n + 1) = (q + 1) * 2 ^ j := by rw [hr,Nat.add_assoc];exact zXF j (q + 1) (by omega) (by omega));obtain ⟨K1,o1⟩ := of_ev q (by omega);obtain ⟨K2,o2⟩ := up_ev q 1 (.inr (by decide)) (by have := zXq (show q < 2 ^ 53 by omega);omega);obtain ⟨K3,o3⟩ := of_ev 2 (by decide);obtain ⟨K4,o4⟩ := of_ev 1 (by decide)
 have hstart : ∀ (k : Nat),K1 + K2 + K3 + K4 ≤ k → dec_spans.f k (a : Int) = if ((q : Int)) = 4503599627370496 then dec_spans.j0 k e (q : Int) (decide (e > (-1074))) (toB (q * 2)) (toB 2) (toB 1) (toB 1) else dec_spans.j0 k e (q : Int) false (toB (q * 2)) (toB 2) (toB 1) (toB 1) := by
  intro k hk;dsimp only at o1 o2 o3 o4;have p1 := o1 k (by omega);have p2 := o2 k (by omega);have p3 := o3 k (by omega);have p4 := o4 k (by omega);rw [Nat.pow_one] at p2;have p3 : dec_of.f k 2 = some (toB 2) := p3;have p4 : dec_of.f k 1 = some (toB 1) := p4;have p2 : b_up.f k (toB q) 1 = some (toB (q * 2)) := p2;rw [dec_spans.f,hp,Option.bind_some];dsimp only;rw [p1,Option.bind_some,p2,Option.bind_some,p3,Option.bind_some,p4,Option.bind_some,Option.bind_some]
 by_cases hc : q = 4503599627370496 ∧ 0 < j
 ·obtain ⟨K5,o5⟩ := up_ev q 2 (.inr (by decide)) (by have := zXq (show q < 2 ^ 53 by omega);omega);obtain ⟨K6,o6⟩ := of_ev 4 (by decide);obtain ⟨K7,o7⟩ := zJd e (q * 4) 4 1 2 60 (by omega) (by decide) (by decide) (by decide) (by omega) (by omega) (by omega) (by decide) (by decide) (by decide) (by decide);have hd := zBT (show n = j * 4503599627370496 + 4503599627370496 by omega) hc.2;refine ⟨_,_,_,_,zHX u0 u1 hd (Nat.two_pow_pos _) hK,lt_up (a := 60) (by omega) (by omega),lt_up (a := 3) (by decide) (by omega),?_,lt_up (a := 2) (by decide) (by omega),?_⟩
  ·have := lt_up (x := 1) (a := 1) (b := e.toNat) (B := B) (by decide) (by omega)
   rwa [Nat.one_mul] at this
  ·refine ⟨K1 + K2 + K3 + K4 + K5 + K6 + K7 + 1,fun k hk => ?_⟩;dsimp only at o1 o3 o4 o5 o6 o7 ⊢;obtain ⟨k',rfl⟩ : ∃ k',k = k' + 1 := ⟨k - 1,by omega⟩;have p1 := o1 k' (by omega);have p5 : b_up.f k' (toB q) 2 = some (toB (q * 4)) := o5 k' (by omega);have p6 : dec_of.f k' 4 = some (toB 4) := o6 k' (by omega);have p3 : dec_of.f k' 2 = some (toB 2) := o3 k' (by omega);have p4 : dec_of.f k' 1 = some (toB 1) := o4 k' (by omega);rw [hstart (k' + 1) (by omega),if_pos (by omega),dec_spans.j0,if_pos (by rw [decide_eq_true_iff];omega),p1,Option.bind_some,p5,Option.bind_some,p6,Option.bind_some,p4,Option.bind_some,p3,Option.bind_some,o7 k' (by omega),Nat.one_mul]
 ·obtain ⟨K7,o7⟩ := zJd e (q * 2) 2 1 1 60 (by omega) (by decide) (by decide) (by decide) (by omega) (by omega) (by omega) (by decide) (by decide) (by decide) (by decide)
  have hd : units n - units (n - 1) = 2 ^ j := by
   rcases zKX hr hq hjq h0 with h | h
   ·exact h
   ·exact absurd ⟨h.1,h.2.1⟩ hc
  have hone : 2 ^ e.toNat < 2 ^ B := by
   have := lt_up (x := 1) (a := 1) (b := e.toNat) (B := B) (by decide) (by omega)
   rwa [Nat.one_mul] at this
  refine ⟨_,_,_,_,zHW u0 u1 hd (Nat.two_pow_pos _) hK,lt_up (a := 60) (by omega) (by omega),lt_up (a := 2) (by decide) (by omega),hone,hone,?_⟩
  ·refine ⟨K1 + K2 + K3 + K4 + K7 + 1,fun k hk => ?_⟩;dsimp only at o7 ⊢;obtain ⟨k',rfl⟩ : ∃ k',k = k' + 1 := ⟨k - 1,by omega⟩;have g7 := o7 k' (by omega);rw [Nat.one_mul] at g7;rw [hstart (k' + 1) (by omega)];by_cases hq2 : q = 4503599627370496
   ·rw [if_pos (by omega),dec_spans.j0,if_neg (by rw [decide_eq_true_iff];omega)];exact g7
   ·rw [if_neg (by omega),dec_spans.j0,if_neg (by decide)];exact g7
theorem zJK {x B n M : Nat} (h : x < 2 ^ B) (hM : B + (4 * n + 1) ≤ M) : x * 10 ^ n < 2 ^ M := by
 refine Nat.lt_of_lt_of_le (Nat.mul_lt_mul'' h (zYW n)) ?_
 rw [← Nat.pow_add];exact Nat.pow_le_pow_right (by decide) hM
theorem zVt (M : Nat) : 2 ^ M ≤ 10 ^ M := Nat.pow_le_pow_left (by decide) M
theorem zGp {n R S D U p q : Nat} (M : Nat) (ev : Bool) (e : Int) (h : Sp n R S D U) (hn : 0 < n) (hM : M ≤ 100000) (hsM : S * 10 ^ q < 2 ^ M) (he : -100000 ≤ e) (he2 : e ≤ 100000)
  (hf : Far (R * 10 ^ p) (U * 10 ^ p) (S * 10 ^ q) ev) (hnf : ¬ Far (R * 10 ^ p) (U * 10 ^ p) (S * 10 ^ (q + 1)) ev) :
  Ev (fun k => d_s.l2 k e ([] : List Int) (toB (R * 10 ^ p)) (toB (S * 10 ^ q)) (toB (D * 10 ^ p)) (toB (U * 10 ^ p)) ev) (outF (gen (R * 10 ^ p) (S * 10 ^ q) (D * 10 ^ p) (U * 10 ^ p) ev 17 0) e) := by
 have hs : 0 < S * 10 ^ q := Nat.mul_pos h.hS (zQF q);have hU := Nat.mul_pos (sp_U h) (zQF p);have hR := Nat.mul_pos (sp_R h hn) (zQF p);(have hD2 : 2 * (D * 10 ^ p) ≤ R * 10 ^ p := by rw [← Nat.mul_assoc];exact Nat.mul_le_mul_right _ (zBm h));have hle := zGf hnf;rw [Nat.pow_succ,← Nat.mul_assoc] at hle
 have hstop : (∃ j,0 ≤ j ∧ j < 0 + 17 ∧ Stop (R * 10 ^ p * 10 ^ j % (S * 10 ^ q)) (D * 10 ^ p * 10 ^ j) (U * 10 ^ p * 10 ^ j) (S * 10 ^ q) ev) ∧
   (S * 10 ^ q ≤ R * 10 ^ p ∨ (0 = 0 ∧ Stop (R * 10 ^ p * 10 ^ 0 % (S * 10 ^ q)) (D * 10 ^ p * 10 ^ 0) (U * 10 ^ p * 10 ^ 0) (S * 10 ^ q) ev ∧ 1 ≤ pickX (R * 10 ^ p * 10 ^ 0 / (S * 10 ^ q)) (R * 10 ^ p * 10 ^ 0 % (S * 10 ^ q)) (D * 10 ^ p * 10 ^ 0) (U * 10 ^ p * 10 ^ 0) (S * 10 ^ q) ev)) := by
  by_cases hge : S * 10 ^ q ≤ R * 10 ^ p
  ·exact ⟨⟨16,by omega,by omega,zZN ev h hn hge⟩,.inl hge⟩
  ·have hlt : R * 10 ^ p < S * 10 ^ q := Nat.lt_of_not_le hge
   have hst : Stop (R * 10 ^ p * 10 ^ 0 % (S * 10 ^ q)) (D * 10 ^ p * 10 ^ 0) (U * 10 ^ p * 10 ^ 0) (S * 10 ^ q) ev := by
    rw [Nat.pow_zero,Nat.mul_one,Nat.mul_one,Nat.mul_one,Nat.mod_eq_of_lt hlt];exact .inr hf
   refine ⟨⟨0,by omega,by omega,hst⟩,.inr ⟨rfl,hst,?_⟩⟩;rw [Nat.pow_zero,Nat.mul_one,Nat.mul_one,Nat.mul_one,Nat.mod_eq_of_lt hlt,Nat.div_eq_of_lt hlt];unfold pickX
   have hnl : ¬ Low (R * 10 ^ p) (D * 10 ^ p) ev := by
    unfold Low;rintro (g | ⟨g,_⟩) <;> omega
   rw [if_pos ⟨hf,.inl hnl⟩]
   exact Nat.le_refl _
 (have hB : (2 : Nat) ^ (M + 4) = 2 ^ M * 16 := by rw [Nat.pow_add]);(have hdn : D * 10 ^ p < 2 ^ (M + 4) := by omega);have hup : U * 10 ^ p < 2 ^ (M + 4) := by omega
 have hg := zHG (R * 10 ^ p) (S * 10 ^ q) (D * 10 ^ p) (U * 10 ^ p) (M + 80) ev e hs (by omega) (by omega) (by
  have : (2 : Nat) ^ (M + 4) ≤ 2 ^ (M + 80) := Nat.pow_le_pow_right (by decide) (by omega)
  omega) he he2 17 0 (by omega) (zJK hdn (by omega)) (zJK hup (by omega)) hstop.1 hstop.2
 have e1 : (R * 10 ^ p * 10 ^ 0 / (S * 10 ^ q) % 10) * (S * 10 ^ q) + R * 10 ^ p * 10 ^ 0 % (S * 10 ^ q) = R * 10 ^ p := by
  rw [Nat.pow_zero,Nat.mul_one];have h10 : R * 10 ^ p / (S * 10 ^ q) < 10 := Nat.div_lt_of_lt_mul (by omega);rw [Nat.mod_eq_of_lt h10,Nat.mul_comm]
  exact Nat.div_add_mod _ _
 rw [e1,Nat.pow_zero,Nat.mul_one (R * 10 ^ p),Nat.mul_one (D * 10 ^ p),Nat.mul_one (U * 10 ^ p)] at hg;exact hg
theorem zBB {n R S D U : Nat} (p q M : Nat) (ev : Bool) (h : Sp n R S D U) (hn : 0 < n) (hM : M ≤ 10000) (hp : p ≤ 1000) (hq : q ≤ 1000) (hrM : R * 10 ^ p + U * 10 ^ p < 2 ^ M) (hsM : S * 10 ^ q < 2 ^ M) :
  ∃ p' q' : Nat,Far (R * 10 ^ p') (U * 10 ^ p') (S * 10 ^ q') ev ∧ ¬ Far (R * 10 ^ p') (U * 10 ^ p') (S * 10 ^ (q' + 1)) ev ∧
   Ev (fun k => d_s.l0 k ((q : Int) - p) (toB (R * 10 ^ p)) (toB (S * 10 ^ q)) (toB (D * 10 ^ p)) (toB (U * 10 ^ p)) ev) (outF (gen (R * 10 ^ p') (S * 10 ^ q') (D * 10 ^ p') (U * 10 ^ p') ev 17 0) ((q' : Int) - p')) := by
 have hup : R * 10 ^ p + U * 10 ^ p < S * 10 ^ (q + 1 + M) := by
  refine Nat.lt_of_lt_of_le hrM (Nat.le_trans (zVt M) ?_)
  refine Nat.le_trans (Nat.pow_le_pow_right (by decide) (show M ≤ q + 1 + M by omega)) ?_
  exact Nat.le_mul_of_pos_left _ h.hS
 obtain ⟨q',g1,g2,g3,g4,g5⟩ := zFG R S D U p M ev (by omega) hrM (by omega) M q (by omega) hup hsM
 have hlo : S * 10 ^ q' ≤ R * 10 ^ (p + M) := by
  refine Nat.le_trans (Nat.le_of_lt g3) (Nat.le_trans (zVt M) ?_)
  refine Nat.le_trans (Nat.pow_le_pow_right (by decide) (show M ≤ p + M by omega)) ?_
  exact Nat.le_mul_of_pos_left _ (sp_R h hn)
 (have h16 : 16 * (S * 10 ^ q') < 2 ^ (M + 4) := by rw [Nat.pow_add];omega);obtain ⟨p',k1,k2,k3,k4,k5⟩ := zFv R S D U q' (M + 4) ev (sp_U h) (by have := zBm h;omega) (by omega) h16 (by omega) M p (by omega) hlo g4;exact ⟨p',q',k3,k4,g5 _ (k5 _ (zGp M ev _ h hn (by omega) g3 (by omega) (by omega) k3 k4))⟩
theorem zHp (a : Nat) (ha : a < 18446744073709551616) : (Go.bits .and .u64 (a : Int) 1 == 0) = (a % 2 == 0) := by
 have := zYo a 1 ha (by decide);rw [show (1 : Nat) = 2 ^ 1 - 1 from rfl,Nat.and_two_pow_sub_one_eq_mod,Nat.pow_one] at this;have h2 : Go.bits .and .u64 (a : Int) 1 = ((a % 2 : Nat) : Int) := this;rw [h2,show ((((a % 2 : Nat) : Int) == 0)) = decide (((a % 2 : Nat) : Int) = 0) from rfl,show (a % 2 == 0) = decide (a % 2 = 0) from rfl];exact decide_eq_decide.2 (by omega)
theorem zJM (a : Nat) (ha : a < 18446744073709551616) (h0 : 0 < rung a) (h1 : rung a < INF) : ∃ R S D U p q : Nat,Sp (rung a) R S D U ∧
  Far (R * 10 ^ p) (U * 10 ^ p) (S * 10 ^ q) (a % 2 == 0) ∧ ¬ Far (R * 10 ^ p) (U * 10 ^ p) (S * 10 ^ (q + 1)) (a % 2 == 0) ∧
  Ev (fun k => d_s.f k (a : Int)) (outF (gen (R * 10 ^ p) (S * 10 ^ q) (D * 10 ^ p) (U * 10 ^ p) (a % 2 == 0) 17 0) ((q : Int) - p)) := by
 obtain ⟨B,hB⟩ : ∃ B,B = 1100 := ⟨_,rfl⟩;obtain ⟨R,S,D,U,hsp,bR,bS,bD,bU,⟨K1,h2⟩⟩ := zGN a ha h0 h1 B hB;have lR := zXq bR;have lS := zXq bS;obtain ⟨la,la1,la2,la3⟩ := zWj R (by omega);obtain ⟨lb,lb1,lb2,lb3⟩ := zWj S (by omega);(have hla : la ≤ 1200 := by omega);(have hlb : lb ≤ 1200 := by omega);have hR := sp_R hsp h0;obtain ⟨e,he⟩ : ∃ e : Int,e = ((la : Int) - lb) * 1233 / 4096 := ⟨_,rfl⟩;(have hwe : wrap64 (wrap64 ((la : Int) - lb) * 1233) / 4096 = e := by rw [wrapB ((la : Int) - lb) (by omega) (by omega),wrapB _ (by omega) (by omega),he]);(have he1 : -400 ≤ e := by omega);(have he2 : e ≤ 400 := by omega);have hev := zHp a ha;clear he lR lS la2 lb2;obtain ⟨M,hM⟩ : ∃ M,M = 4000 := ⟨_,rfl⟩;(have t2 : ∀ x : Nat,x < 2 ^ B → ∀ n : Nat,n ≤ 400 → x * 10 ^ n < 2 ^ (M - 1) := fun x hx n hn => zJK hx (by omega));(have hM2 : (2 : Nat) ^ M = 2 ^ (M - 1) * 2 := by rw [← Nat.pow_succ,show (M - 1).succ = M by omega]);by_cases hpos : e ≥ 0
 ·have s1 := t2 S bS e.toNat (by omega);have r1 := t2 R bR 0 (by omega);have u1 := t2 U bU 0 (by omega);obtain ⟨p',q',g1,g2,K3,g3⟩ := zBB 0 e.toNat M (a % 2 == 0) hsp h0 (by omega) (by omega) (by omega) (by omega) (by omega);obtain ⟨K2,h3⟩ := zZx S e.toNat M (by omega) (by omega) (by omega);refine ⟨R,S,D,U,p',q',hsp,g1,g2,K1 + K2 + K3 + 1,fun k hk => ?_⟩;dsimp only at h2 h3 g3 ⊢;obtain ⟨k',rfl⟩ : ∃ k',k = k' + 1 := ⟨k - 1,by omega⟩;have p3 := h3 (k' + 1) (by omega);have pg := g3 k' (by omega);rw [show ((e.toNat : Nat) : Int) = e by omega] at p3 pg;rw [Nat.pow_zero,Nat.mul_one,Nat.mul_one,Nat.mul_one,show e - ((0 : Nat) : Int) = e by omega] at pg;rw [d_s.f,h2 (k' + 1) (by omega),Option.bind_some];dsimp only;rw [la1,Option.bind_some,lb1,Option.bind_some,hwe,if_pos hpos,p3,Option.bind_some,hev,d_s.j0];exact pg
 ·have s1 := t2 S bS 0 (by omega);have r1 := t2 R bR (-e).toNat (by omega);have u1 := t2 U bU (-e).toNat (by omega);have d1 := t2 D bD (-e).toNat (by omega);obtain ⟨p',q',g1,g2,K3,g3⟩ := zBB (-e).toNat 0 M (a % 2 == 0) hsp h0 (by omega) (by omega) (by omega) (by omega) (by omega);obtain ⟨K2,h3⟩ := zZx R (-e).toNat M (by omega) (by omega) (by omega);obtain ⟨K4,h4⟩ := zZx D (-e).toNat M (by omega) (by omega) (by omega);obtain ⟨K5,h5⟩ := zZx U (-e).toNat M (by omega) (by omega) (by omega);refine ⟨R,S,D,U,p',q',hsp,g1,g2,K1 + K2 + K3 + K4 + K5 + 1,fun k hk => ?_⟩;dsimp only at h2 h3 h4 h5 g3 ⊢;obtain ⟨k',rfl⟩ : ∃ k',k = k' + 1 := ⟨k - 1,by omega⟩;have p3 := h3 (k' + 1) (by omega);have p4 := h4 (k' + 1) (by omega);have p5 := h5 (k' + 1) (by omega);have pg := g3 k' (by omega);rw [show (((-e).toNat : Nat) : Int) = -e by omega] at p3 p4 p5;rw [Nat.pow_zero,Nat.mul_one,show ((0 : Nat) : Int) - (((-e).toNat : Nat) : Int) = e by omega] at pg;rw [d_s.f,h2 (k' + 1) (by omega),Option.bind_some];dsimp only;rw [la1,Option.bind_some,lb1,Option.bind_some,hwe,if_neg hpos,wrapB (-e) (by omega) (by omega),p3,Option.bind_some,p4,Option.bind_some,p5,Option.bind_some,hev,d_s.j0];exact pg
end Go.Proofs.YtongfmeediokmaaGreatDoor.Pure
end
section
namespace Go.Proofs.YtongfmeediokmaaGreatDoor.Flo
theorem zGH (t : Nat) : 2 ^ (3 * t) ≤ 10 ^ t := by rw [Nat.pow_mul];exact Nat.pow_le_pow_left (by decide) t
theorem zJI {a : Nat} (h : a < INF) (B : Nat) (hB : B = 2098) : units a < 2 ^ B := by
 obtain ⟨j,q,h1,h2,h3,h4,_⟩ := zKW a;unfold INF at h;rw [h4,show B = 53 + (B - 53) by omega,Nat.pow_add];have : 2 ^ j ≤ 2 ^ (B - 53) := Nat.pow_le_pow_right (by decide) (by omega)
 calc q * 2 ^ j < 2 ^ 53 * 2 ^ j := Nat.mul_lt_mul_of_pos_right h2 (Nat.two_pow_pos _)
  _ ≤ 2 ^ 53 * 2 ^ (B - 53) := Nat.mul_le_mul_left _ this
theorem zWl {a R S D U p q : Nat} {ev : Bool} (h : Sp a R S D U) (ha : 0 < a) (ha2 : a < INF) (hf : Far (R * 10 ^ p) (U * 10 ^ p) (S * 10 ^ q) ev) (hn : ¬ Far (R * 10 ^ p) (U * 10 ^ p) (S * 10 ^ (q + 1)) ev) :
  -362 ≤ (q : Int) - p ∧ (q : Int) - p ≤ 362 := by
 obtain ⟨t,ht⟩ : ∃ t,t = 360 := ⟨_,rfl⟩;obtain ⟨B,hB⟩ : ∃ B,B = 2098 := ⟨_,rfl⟩
 have hK1 : K < 2 ^ (3 * t) := by
  obtain ⟨E,hE,hK⟩ := K_exp;rw [hK];exact Nat.pow_lt_pow_right (by decide) (by omega)
 have hK2 : 2 ^ (B + 2) ≤ 2 ^ (3 * t) * K := by
  obtain ⟨E,hE,hK⟩ := K_exp;rw [hK,← Nat.pow_add];exact Nat.pow_le_pow_right (by decide) (by omega)
 have hu := zJI ha2 B hB;have hup := zVq ha;have h10 : 2 ^ (3 * t) ≤ 10 ^ t := zGH t;have hUR := sp_UR h ha;constructor
 ·apply Int.le_of_not_gt;intro hgt
  have h1 : R * 10 ^ p ≤ S * 10 ^ (q + 1) := by
   have : R * 10 ^ p + U * 10 ^ p ≤ S * 10 ^ (q + 1) := Nat.le_of_not_lt (fun g => hn (.inl g));omega
  rw [show p = (q + 1) + t + (p - (q + 1) - t) by omega,Nat.pow_add 10 (q + 1 + t),Nat.pow_add 10 (q + 1)] at h1
  have h2 : R * 10 ^ t * 10 ^ (q + 1) ≤ S * 10 ^ (q + 1) := by
   refine Nat.le_trans ?_ h1;rw [show R * (10 ^ (q + 1) * 10 ^ t * 10 ^ (p - (q + 1) - t)) = R * 10 ^ t * 10 ^ (q + 1) * 10 ^ (p - (q + 1) - t) by ac_rfl];exact Nat.le_mul_of_pos_right _ (zQF _)
  have h3 : R * 10 ^ t ≤ S := Nat.le_of_mul_le_mul_right h2 (zQF _)
  have h4 : 10 ^ t * S ≤ K * S := by
   have h5 : R * 10 ^ t * K ≤ S * K := Nat.mul_le_mul_right _ h3;rw [Nat.mul_right_comm,h.hR] at h5;rw [Nat.mul_comm K S];refine Nat.le_trans ?_ h5;rw [show 2 * units a * S * 10 ^ t = 2 * units a * (10 ^ t * S) by ac_rfl];exact Nat.le_mul_of_pos_left _ (by omega)
  have h6 : 10 ^ t ≤ K := Nat.le_of_mul_le_mul_right h4 h.hS;exact absurd (Nat.lt_of_lt_of_le hK1 h10) (Nat.not_lt_of_le h6)
 ·apply Int.le_of_not_gt;intro hgt
  have h1 : S * 10 ^ q ≤ R * 10 ^ p + U * 10 ^ p := by
   rcases hf with g | g
   ·exact Nat.le_of_lt g
   ·exact Nat.le_of_eq g.1
  have h2 : S * 10 ^ q ≤ 2 * R * 10 ^ p := by
   have : U * 10 ^ p ≤ R * 10 ^ p := Nat.mul_le_mul_right _ (by omega);rw [Nat.mul_assoc];omega
  rw [show q = p + t + (q - p - t) by omega,Nat.pow_add 10 (p + t),Nat.pow_add 10 p] at h2
  have h3 : S * 10 ^ t * 10 ^ p ≤ 2 * R * 10 ^ p := by
   refine Nat.le_trans ?_ h2;rw [show S * (10 ^ p * 10 ^ t * 10 ^ (q - p - t)) = S * 10 ^ t * 10 ^ p * 10 ^ (q - p - t) by ac_rfl];exact Nat.le_mul_of_pos_right _ (zQF _)
  have h4 : S * 10 ^ t ≤ 2 * R := Nat.le_of_mul_le_mul_right h3 (zQF _)
  have h5 : 10 ^ t * K * S ≤ 4 * units a * S := by
   have h5 : S * 10 ^ t * K ≤ 2 * R * K := Nat.mul_le_mul_right _ h4;rw [Nat.mul_assoc 2 R K,h.hR] at h5;rw [Nat.mul_comm (10 ^ t * K) S,← Nat.mul_assoc];refine Nat.le_trans h5 (Nat.le_of_eq ?_);rw [← Nat.mul_assoc,← Nat.mul_assoc]
  have h6 : 10 ^ t * K ≤ 4 * units a := Nat.le_of_mul_le_mul_right h5 h.hS
  have h7 : 2 ^ (B + 2) ≤ 10 ^ t * K := by
   exact Nat.le_trans hK2 (Nat.mul_le_mul_right _ h10)
  have h8 : 2 ^ (B + 2) ≤ 4 * units a := Nat.le_trans h7 h6;rw [Nat.pow_add,Nat.mul_comm] at h8;exact absurd hu (Nat.not_lt_of_le (Nat.le_of_mul_le_mul_left h8 (by decide)))
end Go.Proofs.YtongfmeediokmaaGreatDoor.Flo
end
section
namespace Go.Proofs.YtongfmeediokmaaGreatDoor.Pure
open Go.RowKit Go.Proofs.YtongfmeediokmaaGreatDoor.Pr Go.Proofs.YtongfmeediokmaaGreatDoorW.PrintWords Go.Proofs.YtongfmeediokmaaGreatDoorW.PrintLast Go.Proofs.YtongfmeediokmaaGreatDoorW.PrintMore
theorem zJo (c : Int) : (strOfNums [c]).size = 1 := rfl
theorem zQW (a b : ByteArray) : (a ++ b).size = a.size + b.size := ByteArray.size_append
theorem zVM (c : Int) (h : 0 ≤ c) (h2 : c < 256) : bt (strOfNums [c]) ((0 : Nat) : Int) = c := by
 show (((UInt8.ofNat c.toNat).toNat : Nat) : Int) = c;rw [UInt8.toNat_ofNat_of_lt' (by show c.toNat < 256;omega)];omega
theorem zYP {a b : ByteArray} (ha : zQH a) (hb : zQH b) : zQH (a ++ b) := by
 intro i hi;rw [zQW] at hi;rw [zXu];by_cases h : i < a.size
 ·rw [if_pos h];exact ha i h
 ·rw [if_neg h];exact hb _ (by omega)
theorem zVO {c : Int} (h : 48 ≤ c) (h2 : c ≤ 57) : zQH (strOfNums [c]) := by
 intro i hi;rw [zJo] at hi;(obtain rfl : i = 0 := by omega);rw [zVM c (by omega) (by omega)];exact ⟨h,h2⟩
theorem zKt (a b : ByteArray) : ∀ i,i ≤ a.size → dval (a ++ b) i = dval a i
 | 0,_ => rfl
 | i + 1,h => by rw [dval,dval,zKt a b i (by omega),zXu,if_pos (by omega)]
theorem zVN (s : ByteArray) (c : Int) (h : 48 ≤ c) (h2 : c ≤ 57) : dval (s ++ strOfNums [c]) (s ++ strOfNums [c]).size = dval s s.size * 10 + (c - 48).toNat := by
 rw [zQW,zJo,dval,zKt s _ s.size (Nat.le_refl _),zXu,if_neg (by omega),Nat.sub_self,zVM c (by omega) (by omega)]
theorem zGm : ∀ (n x : Nat),x ≤ n → zQH (strOfNums (ds x)) ∧ dval (strOfNums (ds x)) (strOfNums (ds x)).size = x := by
 intro n
 induction n with
 | zero =>
  intro x h;rw [show x = 0 by omega,zYF];exact ⟨fun i hi => absurd hi (Nat.not_lt_zero i),rfl⟩
 | succ n ih =>
  intro x h;by_cases h0 : x = 0
  ·rw [h0,zYF];exact ⟨fun i hi => absurd hi (Nat.not_lt_zero i),rfl⟩
  ·obtain ⟨a,b⟩ := ih (x / 10) (by omega);have hd := dg_in x;rw [zYX h0,zVz];refine ⟨zYP a (zVO hd.1 hd.2),?_⟩;rw [zVN _ _ hd.1 hd.2,b];unfold dg;omega
theorem zBH (x : Nat) : zQH (strOfNums (ds x)) := (zGm x x (Nat.le_refl _)).1
theorem zHI (x : Nat) : dval (strOfNums (ds x)) (strOfNums (ds x)).size = x := (zGm x x (Nat.le_refl _)).2
theorem zGl {m x : Nat} (h : x < 10 ^ m) : (strOfNums (ds x)).size ≤ m := by rw [zXX];exact zHK m x h
theorem zZH {x : Nat} (h : x ≠ 0) : 0 < (ds x).length := by rw [zYX h,List.length_append,List.length_singleton];omega
end Go.Proofs.YtongfmeediokmaaGreatDoor.Pure
end
section
namespace Go.Proofs.YtongfmeediokmaaGreatDoor.Pure
open Go.RowKit Go.Proofs.YtongfmeediokmaaGreatDoor.Pr Go.Proofs.YtongfmeediokmaaGreatDoorW.PrintWords Go.Proofs.YtongfmeediokmaaGreatDoorW.PrintLast Go.Proofs.YtongfmeediokmaaGreatDoorW.PrintMore Go.Proofs.YtongfmeediokmaaGreatDoor.Flo
def zs (n : Nat) : ByteArray := strOfNums (List.replicate n 48)
def mant (d : ByteArray) : ByteArray := if 1 < d.size then d.extract 0 1 ++ (⟨#[46]⟩ : ByteArray) ++ d.extract 1 d.size else d
def layF (d : ByteArray) (e : Int) : ByteArray :=
 if e < -7 then mant d ++ (⟨#[101,45]⟩ : ByteArray) ++ strOfNums (ds (-e).toNat) else if 20 < e then mant d ++ (⟨#[101,43]⟩ : ByteArray) ++ strOfNums (ds e.toNat)
 else if e < 0 then (⟨#[48,46]⟩ : ByteArray) ++ zs (-e - 1).toNat ++ d
 else if (d.size : Int) ≤ e + 1 then d ++ zs (e + 1 - d.size).toNat
 else d.extract 0 (e + 1).toNat ++ (⟨#[46]⟩ : ByteArray) ++ d.extract (e + 1).toNat d.size
theorem zXd : (⟨#[46]⟩ : ByteArray).size = 1 := rfl
theorem zWB : (⟨#[101,45]⟩ : ByteArray).size = 2 := rfl
theorem zWA : (⟨#[101,43]⟩ : ByteArray).size = 2 := rfl
theorem zKm : (⟨#[48,46]⟩ : ByteArray).size = 2 := rfl
theorem zXv (n : Nat) : (zs n).size = n := by unfold zs;rw [zXX,List.length_replicate]
theorem zHL : ∀ (n u : Nat),u ≤ n → u ≠ 0 → Lib.decDigits u = (ds u).map nb
 | 0,u,h,h0 => absurd (by omega) h0
 | n + 1,u,h,h0 => by
  have hn : nb (dg u) = UInt8.ofNat (48 + u % 10) := rfl;rw [Lib.decDigits,zYX h0,List.map_append,List.map_cons,List.map_nil,hn];by_cases h1 : u < 10
  ·rw [dif_pos h1,show u / 10 = 0 by omega,zYF,Nat.mod_eq_of_lt h1]
   rfl
  ·rw [dif_neg h1,zHL n (u / 10) (by omega) (by omega)]
theorem zFq (n : Nat) (h : n ≠ 0) : zHF (n : Int) = strOfNums (ds n) := by
 refine zBl _ _ ?_
 show Lib.itoa (n : Int) = _
 unfold Lib.itoa;rw [if_neg (by omega),Int.toNat_natCast,zHL n n (Nat.le_refl _) h]
theorem zGb (n : Nat) (h : n ≠ 0) (h2 : n ≤ 1000) : strconv_Itoa.f (n : Int) = some (strOfNums (ds n)) := by rw [strconv_Itoa.f,if_pos (by omega),zFq n h]
theorem zVI (n : Nat) : zBq (⟨#[48]⟩ : ByteArray) n = zs n := by
 refine zBl _ _ ?_
 show Lib.repeatL [48] n = _
 induction n with
 | zero => rfl
 | succ n ih => rw [Lib.repeatL,ih];rfl
theorem zJj (n : Nat) (h : n ≤ 1000) : strings_Repeat.f (⟨#[48]⟩ : ByteArray) (n : Int) = some (zs n) := by
 have h1 : (⟨#[48]⟩ : ByteArray).size = 1 := rfl;rw [strings_Repeat.f,if_pos (by rw [h1];omega),Int.toNat_natCast,zVI]
theorem zYG (n : Nat) (h : n ≤ 1000) : (strOfNums (ds n)).size ≤ 4 := zGl (by omega)
theorem zFo (d : ByteArray) (e : Int) (hd : d.size ≤ 100) (he : -900 ≤ e) (he2 : e ≤ 900) : Ev (fun k => dec_laid.f k d e) (layF d e) := by
 (have hsz : (d.size : Int) ≤ 100 := by omega);unfold layF;by_cases c1 : e < -7
 ·rw [if_pos c1];have hi := zGb (-e).toNat (by omega) (by omega);have h4 := zYG (-e).toNat (by omega);rw [show (((-e).toNat : Nat) : Int) = -e by omega] at hi;unfold mant;by_cases c2 : 1 < d.size
  ·rw [if_pos c2];refine Ev.congr (fun k => (by rw [dec_laid.f,if_pos c1])) (Ev.step (f := fun _ => some _) (g := fun k => dec_laid.j0 k d e true) (fun k => ?_) (Ev.now _));rw [dec_laid.j0,if_pos rfl,if_pos (by omega),if_pos (by omega),if_pos (by decide),if_pos (by omega),if_pos (by simp only [zQW,ByteArray.size_extract];omega),if_pos (by simp only [zQW,ByteArray.size_extract,zXd];omega),if_pos (by simp only [zQW,ByteArray.size_extract,zXd];omega),wrapB (-e) (by omega) (by omega),hi,Option.bind_some,if_pos (by simp only [zQW,ByteArray.size_extract,zXd,zWB];omega)]
  ·rw [if_neg c2];refine Ev.congr (fun k => (by rw [dec_laid.f,if_pos c1])) (Ev.step (f := fun _ => some _) (g := fun k => dec_laid.j0 k d e true) (fun k => ?_) (Ev.now _));rw [dec_laid.j0,if_pos rfl,if_pos (by omega),if_neg (by omega),if_pos (by omega),wrapB (-e) (by omega) (by omega),hi,Option.bind_some,if_pos (by simp only [zQW,zWB];omega)]
 ·rw [if_neg c1];by_cases c3 : 20 < e
  ·rw [if_pos c3];have hi := zGb e.toNat (by omega) (by omega);have h4 := zYG e.toNat (by omega);rw [show ((e.toNat : Nat) : Int) = e by omega] at hi;unfold mant;by_cases c2 : 1 < d.size
   ·rw [if_pos c2];refine Ev.congr (fun k => (by rw [dec_laid.f,if_neg c1,decide_eq_true (show e > 20 from c3)])) (Ev.step (f := fun _ => some _) (g := fun k => dec_laid.j0 k d e true) (fun k => ?_) (Ev.now _));rw [dec_laid.j0,if_pos rfl,if_neg (by omega),if_pos (by omega),if_pos (by decide),if_pos (by omega),if_pos (by simp only [zQW,ByteArray.size_extract];omega),if_pos (by simp only [zQW,ByteArray.size_extract,zXd];omega),if_pos (by simp only [zQW,ByteArray.size_extract,zXd];omega),hi,Option.bind_some,if_pos (by simp only [zQW,ByteArray.size_extract,zXd,zWA];omega)]
   ·rw [if_neg c2];refine Ev.congr (fun k => (by rw [dec_laid.f,if_neg c1,decide_eq_true (show e > 20 from c3)])) (Ev.step (f := fun _ => some _) (g := fun k => dec_laid.j0 k d e true) (fun k => ?_) (Ev.now _));rw [dec_laid.j0,if_pos rfl,if_neg (by omega),if_neg (by omega),if_pos (by omega),hi,Option.bind_some,if_pos (by simp only [zQW,zWA];omega)]
  ·rw [if_neg c3];have hc : decide (e > 20) = false := decide_eq_false (by omega);by_cases c4 : e < 0
   ·rw [if_pos c4];have hr := zJj (-e - 1).toNat (by omega);rw [show (((-e - 1).toNat : Nat) : Int) = -e - 1 by omega] at hr;refine Ev.congr (fun k => (by rw [dec_laid.f,if_neg c1,hc])) (Ev.step (f := fun _ => some _) (g := fun k => dec_laid.j0 k d e false) (fun k => ?_) (Ev.now _));rw [dec_laid.j0,if_neg (by decide),if_pos c4,wrapB (-e) (by omega) (by omega),wrapB (-e - 1) (by omega) (by omega),hr,Option.bind_some,if_pos (by rw [zXv];omega),if_pos (by simp only [zQW,zKm,zXv];omega)]
   ·rw [if_neg c4];by_cases c5 : (d.size : Int) ≤ e + 1
    ·rw [if_pos c5];have hr := zJj (e + 1 - d.size).toNat (by omega);rw [show (((e + 1 - (d.size : Int)).toNat : Nat) : Int) = e + 1 - (d.size : Int) by omega] at hr;refine Ev.congr (fun k => (by rw [dec_laid.f,if_neg c1,hc])) (Ev.step (f := fun _ => some _) (g := fun k => dec_laid.j0 k d e false) (fun k => ?_) (Ev.now _));rw [dec_laid.j0,if_neg (by decide),if_neg c4,wrapB (e + 1) (by omega) (by omega),if_pos (by omega),wrapB (e + 1 - (d.size : Int)) (by omega) (by omega),hr,Option.bind_some,if_pos (by rw [zXv];omega)]
    ·rw [if_neg c5];refine Ev.congr (fun k => (by rw [dec_laid.f,if_neg c1,hc])) (Ev.step (f := fun _ => some _) (g := fun k => dec_laid.j0 k d e false) (fun k => ?_) (Ev.now _));rw [dec_laid.j0,if_neg (by decide),if_neg c4,wrapB (e + 1) (by omega) (by omega),if_neg (by omega),if_pos (by omega),if_pos (by omega),if_pos (by simp only [ByteArray.size_extract];omega),if_pos (by simp only [zQW,ByteArray.size_extract,zXd];omega)]
end Go.Proofs.YtongfmeediokmaaGreatDoor.Pure
end
section
namespace Go.Proofs.YtongfmeediokmaaGreatDoor.Flo
theorem zFe (Q ρ dn up s : Nat) (ev : Bool) : Q ≤ pickX Q ρ dn up s ev ∧ pickX Q ρ dn up s ev ≤ Q + 1 := by
 unfold pickX;split <;> omega
theorem zBC {n R S D U p q : Nat} {ev : Bool} (h : Sp n R S D U) (hn : 0 < n) (hf : Far (R * 10 ^ p) (U * 10 ^ p) (S * 10 ^ q) ev) (hnf : ¬ Far (R * 10 ^ p) (U * 10 ^ p) (S * 10 ^ (q + 1)) ev) :
  ∃ m X : Nat,gen (R * 10 ^ p) (S * 10 ^ q) (D * 10 ^ p) (U * 10 ^ p) ev 17 0 = (m,X) ∧ m ≤ 16 ∧ 10 ^ m ≤ X ∧ X ≤ 10 ^ (m + 1) ∧
   X = pickX (R * 10 ^ p * 10 ^ m / (S * 10 ^ q)) (R * 10 ^ p * 10 ^ m % (S * 10 ^ q)) (D * 10 ^ p * 10 ^ m) (U * 10 ^ p * 10 ^ m) (S * 10 ^ q) ev ∧
   Stop (R * 10 ^ p * 10 ^ m % (S * 10 ^ q)) (D * 10 ^ p * 10 ^ m) (U * 10 ^ p * 10 ^ m) (S * 10 ^ q) ev := by
 have hs : 0 < S * 10 ^ q := Nat.mul_pos h.hS (zQF q);have hU := Nat.mul_pos (sp_U h) (zQF p);have hle : R * 10 ^ p + U * 10 ^ p ≤ S * 10 ^ (q + 1) := Nat.le_of_not_lt (fun g => hnf (.inl g));rw [Nat.pow_succ,← Nat.mul_assoc] at hle;by_cases hge : S * 10 ^ q ≤ R * 10 ^ p
 ·obtain ⟨g1,g2,g3,g4⟩ := zBD (R * 10 ^ p) (S * 10 ^ q) (D * 10 ^ p) (U * 10 ^ p) ev 17 0 ⟨16,by omega,by omega,zZN ev h hn hge⟩;generalize hg : gen (R * 10 ^ p) (S * 10 ^ q) (D * 10 ^ p) (U * 10 ^ p) ev 17 0 = g at g1 g2 g3 g4 ⊢;obtain ⟨m,X⟩ := g;dsimp only at g1 g2 g3 g4
  have hQ0 : 10 ^ m ≤ R * 10 ^ p * 10 ^ m / (S * 10 ^ q) := by
   rw [Nat.le_div_iff_mul_le hs,Nat.mul_comm];exact Nat.mul_le_mul_right _ hge
  have hQ2 : R * 10 ^ p * 10 ^ m / (S * 10 ^ q) < 10 ^ (m + 1) := by
   refine Nat.div_lt_of_lt_mul ?_
   rw [Nat.pow_succ,Nat.mul_comm (10 ^ m) 10,← Nat.mul_assoc];exact Nat.mul_lt_mul_of_pos_right (by omega) (zQF m)
  have hp := zFe (R * 10 ^ p * 10 ^ m / (S * 10 ^ q)) (R * 10 ^ p * 10 ^ m % (S * 10 ^ q)) (D * 10 ^ p * 10 ^ m) (U * 10 ^ p * 10 ^ m) (S * 10 ^ q) ev;rw [← g3] at hp;exact ⟨m,X,rfl,by omega,by omega,by omega,g3,g4⟩
 ·have hlt : R * 10 ^ p < S * 10 ^ q := Nat.lt_of_not_le hge;(have hD2 : 2 * (D * 10 ^ p) ≤ R * 10 ^ p := by rw [← Nat.mul_assoc];exact Nat.mul_le_mul_right _ (zBm h));have hRp := Nat.mul_pos (sp_R h hn) (zQF p)
  have hnl : ¬ Low (R * 10 ^ p) (D * 10 ^ p) ev := by
   unfold Low;rintro (g | ⟨g,_⟩) <;> omega
  have hx : pickX (R * 10 ^ p * 10 ^ 0 / (S * 10 ^ q)) (R * 10 ^ p * 10 ^ 0 % (S * 10 ^ q)) (D * 10 ^ p * 10 ^ 0) (U * 10 ^ p * 10 ^ 0) (S * 10 ^ q) ev = 1 := by
   rw [Nat.pow_zero,Nat.mul_one,Nat.mul_one,Nat.mul_one,Nat.mod_eq_of_lt hlt,Nat.div_eq_of_lt hlt];unfold pickX;rw [if_pos ⟨hf,.inl hnl⟩]
  have hst : Stop (R * 10 ^ p * 10 ^ 0 % (S * 10 ^ q)) (D * 10 ^ p * 10 ^ 0) (U * 10 ^ p * 10 ^ 0) (S * 10 ^ q) ev := by
   rw [Nat.pow_zero,Nat.mul_one,Nat.mul_one,Nat.mul_one,Nat.mod_eq_of_lt hlt];exact .inr hf
  exact ⟨0,1,by rw [gen,if_pos hst,hx],by decide,by decide,by decide,hx.symm,hst⟩
end Go.Proofs.YtongfmeediokmaaGreatDoor.Flo
end
section
namespace Go.Proofs.YtongfmeediokmaaGreatDoor.Pure
open Go.RowKit Go.Proofs.YtongfmeediokmaaGreatDoor.Pr Go.Proofs.YtongfmeediokmaaGreatDoorW.PrintWords Go.Proofs.YtongfmeediokmaaGreatDoorW.PrintLast Go.Proofs.YtongfmeediokmaaGreatDoorW.PrintMore Go.Proofs.YtongfmeediokmaaGreatDoor.Flo
theorem zGM {x : Nat} (h : x ≠ 0) : strip x ≤ x := by
 obtain ⟨_,_,z,hz⟩ := zKj x x (Nat.le_refl _) h;have : strip x * 1 ≤ strip x * 10 ^ z := Nat.mul_le_mul_left _ (Nat.pow_pos (by decide));omega
def pre (a : Nat) : ByteArray := if a / 9223372036854775808 = 1 then (⟨#[45]⟩ : ByteArray) else (⟨#[]⟩ : ByteArray)
theorem zGV (a : Nat) : (pre a).size ≤ 1 := by
 unfold pre;split
 ·exact Nat.le_refl 1
 ·exact Nat.zero_le 1
theorem zFp (a : Nat) (ha : a < 18446744073709551616) : flo_Kind.f (a : Int) = some (kindV a) := by
 rw [flo_Kind.f,flo_kind.f,if_pos (by omega),Int.toNat_natCast]
 rfl
theorem zJU (a : Nat) (ha : a < 18446744073709551616) (r : ByteArray) (h : Ev (fun k => dec_Print.j0 k (a : Int) (pre a)) r) : Ev (fun k => dec_Print.f k (a : Int)) r := by
 refine Ev.congr (fun k => ?_) h;unfold dec_Print.f pre;by_cases c : a / 9223372036854775808 = 1
 ·rw [if_pos c,if_pos (by omega)]
 ·rw [if_neg c,if_neg (by omega)]
theorem zVP (a : Nat) (ha : a < 18446744073709551616) (h0 : 0 < rung a) (h1 : rung a < INF) : ∃ R S D U p q m X : Nat,Sp (rung a) R S D U ∧
  Far (R * 10 ^ p) (U * 10 ^ p) (S * 10 ^ q) (a % 2 == 0) ∧ ¬ Far (R * 10 ^ p) (U * 10 ^ p) (S * 10 ^ (q + 1)) (a % 2 == 0) ∧ gen (R * 10 ^ p) (S * 10 ^ q) (D * 10 ^ p) (U * 10 ^ p) (a % 2 == 0) 17 0 = (m,X) ∧ m ≤ 16 ∧ 10 ^ m ≤ X ∧ X ≤ 10 ^ (m + 1) ∧
  Ev (fun k => dec_Print.f k (a : Int)) (pre a ++ layF (outF (m,X) ((q : Int) - p)).1 (outF (m,X) ((q : Int) - p)).2) := by
 obtain ⟨R,S,D,U,p,q,hsp,hf,hnf,K1,g1⟩ := zJM a ha h0 h1;obtain ⟨m,X,hg,hm,hX1,hX2,_,_⟩ := zBC hsp h0 hf hnf;rw [hg] at g1;have hb := zWl hsp h0 h1 hf hnf;have hX0 : X ≠ 0 := by have := zQF m;omega
 have hsz : (outF (m,X) ((q : Int) - p)).1.size ≤ 18 := by
  unfold outF;dsimp only
  refine zGl ?_
  have h2 := zGM hX0;have h3 : (10 : Nat) ^ (m + 1) < 10 ^ 18 := Nat.pow_lt_pow_right (by decide) (by omega);omega
 have he : -402 ≤ (outF (m,X) ((q : Int) - p)).2 ∧ (outF (m,X) ((q : Int) - p)).2 ≤ 403 := by
  unfold outF;dsimp only;split <;> omega
 refine ⟨R,S,D,U,p,q,m,X,hsp,hf,hnf,hg,hm,hX1,hX2,zJU a ha _ ?_⟩;generalize outF (m,X) ((q : Int) - p) = o at g1 hsz he ⊢;obtain ⟨d,e⟩ := o;dsimp only at hsz he ⊢;obtain ⟨K2,g2⟩ := zFo d e (by omega) (by omega) (by omega);have hk := zBA h0 h1;have hps := zGV a
 have hls : (layF d e).size ≤ 2000 := by
  unfold layF mant;have e1 := zYG (-e).toNat (by omega);have e2 := zYG e.toNat (by omega);by_cases c1 : e < -7
  ·rw [if_pos c1];split <;> simp only [zQW,ByteArray.size_extract,zXd,zWB] <;> omega
  ·rw [if_neg c1];by_cases c2 : 20 < e
   ·rw [if_pos c2];split <;> simp only [zQW,ByteArray.size_extract,zXd,zWA] <;> omega
   ·rw [if_neg c2];by_cases c3 : e < 0
    ·rw [if_pos c3];simp only [zQW,zKm,zXv];omega
    ·rw [if_neg c3];split <;> simp only [zQW,ByteArray.size_extract,zXd,zXv] <;> omega
 refine ⟨K1 + K2 + 1,fun k hk2 => ?_⟩;dsimp only at g1 g2 ⊢;obtain ⟨k',rfl⟩ : ∃ k',k = k' + 1 := ⟨k - 1,by omega⟩;(have hk3 : kindV a ≠ 4 ∧ kindV a ≠ 3 ∧ kindV a ≠ 0 := by rw [hk];split <;> decide);rw [dec_Print.j0,zFp a ha,Option.bind_some,if_neg hk3.1,if_neg hk3.2.1,if_neg hk3.2.2,g1 k' (by omega),Option.bind_some];dsimp only;rw [g2 k' (by omega),Option.bind_some,if_pos (by omega)]
theorem zGi (a b : ByteArray) : (a ++ b).extract 0 a.size = a := by
 refine zYQ ?_
 rw [zQU,bytes_append,List.drop_zero,List.take_left' (zQE a)]
theorem zQR (a b : ByteArray) : (a ++ b).size = a.size + b.size := ByteArray.size_append
theorem zJr (s d : ByteArray) (e : Int) (hsz : s.size ≤ 400) (hd : zQH d) (hds : d.size ≤ 400) (he : -100000 ≤ e) (he2 : e ≤ 100000) (h : Ev (fun k => dec_cut.f k s) (d,e,true)) : ∃ w,zYJ (dval d d.size) e w ∧ Ev (fun k => dec_Parse.f k s) (((w : Nat) : Int),0) := by
 obtain ⟨w,hw,hwe⟩ := zWh d e hd hds he he2;refine ⟨w,hw,?_⟩;have hn : Ev (fun k => (dec_nearest.f k d e).bind fun t => some (t,(0 : Int))) (((w : Nat) : Int),0) := Ev.bind hwe (Ev.now _);refine Ev.congr (fun k => ?_) (Ev.bind h (f := fun k bt => if bt.2.2 = true then ((dec_nearest.f k bt.1 bt.2.1).bind fun t => (some (t,(0 : Int)))) else (some (0,4))) (Ev.congr (fun k => if_pos rfl) hn));unfold dec_Parse.f;rw [if_neg (by omega)]
theorem zYw (a b c : ByteArray) : a ++ b ++ c = a ++ (b ++ c) := zYQ (by simp only [bytes_append,List.append_assoc])
theorem tnil (a : ByteArray) : a ++ (⟨#[]⟩ : ByteArray) = a := zYQ (by rw [bytes_append];exact List.append_nil _)
theorem zKg (a : ByteArray) : (⟨#[]⟩ : ByteArray) ++ a = a := zYQ (by rw [bytes_append];rfl)
theorem zGk (s : ByteArray) (i : Nat) : dval s i ≤ dval s (i + 1) := by rw [dval];omega
theorem zJx (s : ByteArray) (i : Nat) : ∀ d,dval s i ≤ dval s (i + d)
 | 0 => Nat.le_refl _
 | d + 1 => Nat.le_trans (zJx s i d) (zGk s (i + d))
theorem zWn (g : ByteArray) (hg : dval g g.size ≤ 9999) : ∀ n i,i + n = g.size → efold g n i (dval g i) = dval g g.size
 | 0,i,h => by rw [efold,show i = g.size by omega]
 | n + 1,i,h => by
  have h1 : dval g (i + 1) ≤ 9999 := by
   have := zJx g (i + 1) n;rw [show i + 1 + n = g.size by omega] at this;omega
  have h2 : min (10 * dval g i + (bt g (i : Int) - 48).toNat) 9999 = dval g (i + 1) := by
   rw [dval] at h1 ⊢;rw [Nat.mul_comm 10];exact Nat.min_eq_left h1
  rw [efold,h2];exact zWn g hg n (i + 1) (by omega)
structure TailOK (T : ByteArray) (E : Int) : Prop where
 run : ∀ (P d : ByteArray) (x : Int),(P ++ T).size ≤ 1000 → -1000 ≤ x → x ≤ 1000 → Ev (fun k => dec_cut.j0 k (suf (P ++ T) P.size) d x) (d,x + E,true)
 front : T.size = 0 ∨ bt T ((0 : Nat) : Int) = 101
 small : T.size ≤ 20
theorem zWz : TailOK (⟨#[]⟩ : ByteArray) 0 := by
 refine ⟨fun P d x h1 h2 h3 => ?_,.inl rfl,by decide⟩;rw [tnil] at h1 ⊢;rw [Int.add_zero];exact zYN P P.size (by omega) (Nat.le_refl _) x d _ (fun _ => rfl) (fun h => absurd h (Nat.lt_irrefl _)) (fun h => absurd h (Nat.lt_irrefl _)) (fun h => absurd h (Nat.lt_irrefl _)) (fun h => absurd h (Nat.lt_irrefl _))
def emark (neg : Bool) : ByteArray := if neg = true then (⟨#[101,45]⟩ : ByteArray) else (⟨#[101,43]⟩ : ByteArray)
theorem zGK (neg : Bool) (g : ByteArray) (hg : zQH g) (hg0 : g.size ≠ 0) (hg2 : g.size ≤ 4) (hv : dval g g.size ≤ 9999) : TailOK (emark neg ++ g) (if neg = true then -(dval g g.size : Int) else (dval g g.size : Int)) := by
 (have hms : (emark neg).size = 2 := by unfold emark;cases neg <;> rfl);(have m0 : bt (emark neg) ((0 : Nat) : Int) = 101 := by unfold emark;cases neg <;> rfl);(have m1 : bt (emark neg) ((1 : Nat) : Int) = if neg = true then 45 else 43 := by unfold emark;cases neg <;> rfl);refine ⟨fun P d x h1 h2 h3 => ?_,.inr (by rw [zXu,if_pos (by omega)];exact m0),by rw [zQR];omega⟩;obtain ⟨S,hS⟩ : ∃ S,S = P ++ (emark neg ++ g) := ⟨_,rfl⟩;rw [← hS] at h1 ⊢;(have hSs : S.size = P.size + (2 + g.size) := by rw [hS,zQR,zQR,hms]);(have b0 : bt S (P.size : Int) = 101 := by rw [hS,zXu,if_neg (Nat.lt_irrefl _),Nat.sub_self,zXu,if_pos (by omega)];exact m0);have b1 : bt S ((P.size + 1 : Nat) : Int) = if neg = true then 45 else 43 := by rw [hS,zXu,if_neg (by omega),show P.size + 1 - P.size = 1 by omega,zXu,if_pos (by omega)];exact m1
 have b2 : ∀ i : Nat,bt S ((P.size + 2 + i : Nat) : Int) = bt g (i : Int) := fun i => by
  rw [hS,zXu,if_neg (by omega),zXu,if_neg (by omega),hms]
  congr 2
  omega
 have hDE : DE S (P.size + 2) S.size := by
  refine ⟨by omega,Nat.le_refl _,fun t t1 t2 => ⟨t2,?_⟩,fun c => absurd c.1 (Nat.lt_irrefl _)⟩;obtain ⟨i,rfl⟩ := Nat.exists_eq_add_of_le t1;rw [b2 i];exact hg i (by omega)
 have hfold : ∀ n i e,efold S n (P.size + 2 + i) e = efold g n i e := by
  intro n
  induction n with
  | zero => intro i e;rfl
  | succ n ih =>
   intro i e;rw [efold,efold,b2 i,Nat.add_assoc (P.size + 2) i 1,ih]
 have hE : efrom S (P.size + 2) = dval g g.size := by
  unfold efrom;rw [show S.size - (P.size + 2) = g.size by omega];exact (hfold g.size 0 0).trans (zWn g hv g.size 0 (by omega))
 have hx : ∀ x8 : Int,(x8 = 1 ∨ x8 = -1) → Ev (fun k => dec_cut.j3 k (suf S (P.size + 2)) x8 d x) (d,x + x8 * (dval g g.size : Nat),true) := by
  intro x8 h8;have := zHH S (P.size + 2) S.size (by omega) (by omega) x8 x d h8 (by omega) hDE;rw [if_neg (by omega),hE] at this;exact this
 refine zYN S P.size (by omega) (by omega) x d _ (fun h => by omega) (fun _ h => absurd b0 h) (fun _ _ _ h => ?_) (fun _ _ _ h => ?_) (fun _ _ h => ?_)
 ·cases neg with
  | true =>
   have := hx (-1) (.inr rfl);rw [if_pos rfl,show (-(dval g g.size : Int)) = -1 * ((dval g g.size : Nat) : Int) by omega];exact this
  | false => rw [b1] at h;exact absurd h (by decide)
 ·cases neg with
  | true => rw [b1] at h;exact absurd h (by decide)
  | false =>
   have := hx 1 (.inl rfl);rw [if_neg (by decide),show ((dval g g.size : Int)) = 1 * ((dval g g.size : Nat) : Int) by omega];exact this
 ·rcases h with h | h
  ·omega
  ·cases neg with
   | true => exact absurd b1 h.2
   | false => exact absurd b1 h.1
theorem zJA (f T : ByteArray) (E : Int) (hf : zQH f) (hf0 : f.size ≠ 0) (hfs : f.size ≤ 400) (hT : TailOK T E) : Ev (fun k => dec_cut.f k (f ++ T)) (f,E,true) := by
 have hts := hT.small
 have hS : (f ++ T).size = f.size + T.size := zQR _ _
 have b1 : ∀ i : Nat,i < f.size → bt (f ++ T) (i : Int) = bt f (i : Int) := fun i hi => by rw [zXu,if_pos hi]
 have b2 : T.size ≠ 0 → bt (f ++ T) (f.size : Int) = 101 := fun h => by
  rw [zXu,if_neg (Nat.lt_irrefl _),Nat.sub_self];rcases hT.front with g | g
  ·exact absurd g h
  ·exact g
 have hDE : DE (f ++ T) 0 f.size := by
  refine ⟨Nat.zero_le _,by omega,fun t _ ht => ⟨by omega,?_⟩,fun c => ?_⟩
  ·rw [b1 t ht];exact hf t ht
  ·have c1 := c.1;have c2 := c.2.2;rw [b2 (by omega)] at c2;exact absurd c2 (by decide)
 have hrun := hT.run f f 0 (by omega) (by omega) (by omega);rw [Int.zero_add] at hrun;refine zWp (f ++ T) f.size 0 (by omega) hDE _ (fun h => absurd h hf0) (fun _ h1 h2 => ?_) (fun _ _ => ?_)
 ·rw [b2 (by omega)] at h2;exact absurd h2 (by decide)
 ·rw [zGi];exact hrun
theorem zZI (f g T : ByteArray) (E : Int) (hf : zQH f) (hf0 : f.size ≠ 0) (hfs : f.size ≤ 400) (hg : zQH g) (hg0 : g.size ≠ 0) (hgs : g.size ≤ 400) (hT : TailOK T E) :
  Ev (fun k => dec_cut.f k (f ++ ((⟨#[46]⟩ : ByteArray) ++ (g ++ T)))) (f ++ g,-(g.size : Int) + E,true) := by
 have hts := hT.small;obtain ⟨S,hS⟩ : ∃ S,S = f ++ ((⟨#[46]⟩ : ByteArray) ++ (g ++ T)) := ⟨_,rfl⟩;rw [← hS];(have hSs : S.size = f.size + (1 + (g.size + T.size)) := by rw [hS,zQR,zQR,zQR,zXd]);have b1 : ∀ i : Nat,i < f.size → bt S (i : Int) = bt f (i : Int) := fun i hi => by rw [hS,zXu,if_pos hi]
 have b2 : bt S (f.size : Int) = 46 := by
  rw [hS,zXu,if_neg (Nat.lt_irrefl _),Nat.sub_self,zXu,if_pos (by rw [zXd];omega)]
  rfl
 have b3 : ∀ i : Nat,i < g.size → bt S ((f.size + 1 + i : Nat) : Int) = bt g (i : Int) := fun i hi => by
  rw [hS,zXu,if_neg (by omega),zXu,if_neg (by rw [zXd];omega),zXu,zXd,if_pos (by omega)]
  congr 2
  omega
 have b4 : T.size ≠ 0 → bt S ((f.size + 1 + g.size : Nat) : Int) = 101 := fun h => by
  rw [hS,zXu,if_neg (by omega),zXu,if_neg (by rw [zXd];omega),zXu,zXd,if_neg (by omega),show f.size + 1 + g.size - f.size - 1 - g.size = 0 by omega];rcases hT.front with g | g
  ·exact absurd g h
  ·exact g
 have hDE : DE S 0 f.size := by
  refine ⟨Nat.zero_le _,by omega,fun t _ ht => ⟨by omega,?_⟩,fun c => ?_⟩
  ·rw [b1 t ht];exact hf t ht
  ·have := c.2.1;rw [b2] at this;omega
 have hDE2 : DE S (f.size + 1) (f.size + 1 + g.size) := by
  refine ⟨by omega,by omega,fun t h1 h2 => ⟨by omega,?_⟩,fun c => ?_⟩
  ·obtain ⟨i,rfl⟩ := Nat.exists_eq_add_of_le h1;rw [b3 i (by omega)];exact hg i (by omega)
  ·have c1 := c.1;have c2 := c.2.2;rw [b4 (by omega)] at c2;exact absurd c2 (by decide)
 have e1 : S.extract 0 f.size = f := by rw [hS];exact zGi _ _
 have e2 : S.extract (f.size + 1) (f.size + 1 + g.size) = g := by
  refine zYQ ?_
  rw [zQU,hS,bytes_append,bytes_append,bytes_append,← List.append_assoc,← List.append_assoc,List.take_left' (by rw [List.length_append,List.length_append,zQE,zQE,zQE,zXd]),List.drop_left' (by rw [List.length_append,zQE,zQE,zXd])]
 have hrun := hT.run (f ++ ((⟨#[46]⟩ : ByteArray) ++ g)) (f ++ g) (-(g.size : Int)) (by rw [zQR,zQR,zQR,zXd];omega) (by omega) (by omega);rw [show f ++ ((⟨#[46]⟩ : ByteArray) ++ g) ++ T = S by rw [hS];simp only [zYw],show (f ++ ((⟨#[46]⟩ : ByteArray) ++ g)).size = f.size + 1 + g.size by rw [zQR,zQR,zXd];omega] at hrun;refine zWp S f.size (f.size + 1 + g.size) (by omega) hDE _ (fun h => absurd h hf0) (fun _ _ _ => ⟨hDE2,fun h => by omega,fun _ => ?_⟩) (fun _ h => absurd ⟨by omega,b2⟩ h);rw [e1,e2,show f.size + 1 + g.size - f.size - 1 = g.size by omega];exact hrun
end Go.Proofs.YtongfmeediokmaaGreatDoor.Pure
end
