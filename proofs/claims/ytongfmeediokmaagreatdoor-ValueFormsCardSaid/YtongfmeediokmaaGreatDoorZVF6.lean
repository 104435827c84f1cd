/- Lemmas, and contracts of calls, for the law ValueForms. -/
import Derived.Test.YtongfmeediokmaaGreatDoorProg
import Derived.Below
import Derived.Deep.Draws
import Derived.Deep.AppendLies
import Derived.Maps.AppendAt
import Derived.OwnWalk
import Derived.Laws.BytesArg
import Derived.Laws.MakeOwn
import Derived.Laws.OwnMore
import Derived.Deep.OwnRows
import Derived.Tactics
import Derived.Lib.ConvBytes
import Derived.Laws.Slices
import Derived.WalkKit
import Derived.KernelRfl
import Derived.RowKit3
import Derived.Deep.LoopGhost
import Derived.Deep.QuietTactic
import Derived.BigQuiet
import Derived.WideLaws
import Derived.Deep.DeepCutAuto
import Derived.Deep.CutBlock
import Derived.Deep.RegionHeld3
import Derived.Laws.Rows
import Derived.Lib.AppendStr
import Derived.ArgAppend
import Derived.Laws.IdiomCopy
import Derived.OrdersHeld
import Derived.Laws.BitsLemmas
import Derived.RowKit
import Derived.Test.YtongfmeediokmaaGreatDoorZVF0
import Derived.Test.YtongfmeediokmaaGreatDoorZVF1
import Derived.Test.YtongfmeediokmaaGreatDoorZVF2
import Derived.Test.YtongfmeediokmaaGreatDoorZVF3
import Derived.Test.YtongfmeediokmaaGreatDoorZVF4
import Derived.Test.YtongfmeediokmaaGreatDoorZVF5
set_option linter.unusedVariables false
set_option linter.unusedSimpArgs false
section
namespace Go.Proofs.YtongfmeediokmaaGreatDoor.Pr
open Go.RowKit YtongfmeediokmaaGreatDoorW.PrintWords YtongfmeediokmaaGreatDoorW.PrintLast YtongfmeediokmaaGreatDoorW.PrintMore YtongfmeediokmaaGreatDoor.Pv
attribute [local go_sem] zXb zQZ zXj zXi zQP zQO zXa zQY
attribute [local go_sem high] eqA25
def w8_ValueForms.f (k : Nat) (a0_0 : Int) (a0_1 : Int) (a0_2 : ByteArray) (a0_3 : Int) : Option (Bool) := (value_Key.f k a0_0 a0_1 a0_2 a0_3).bind fun bt828 => ((r8_Key.f k a0_0 a0_1 a0_2 a0_3).bind fun bt834 => ((value_Normal.f k a0_0 a0_1 a0_2 a0_3).bind fun bt840 => ((r8_Normal.f k a0_0 a0_1 a0_2 a0_3).bind fun bt844 => (if (bt840.1 == bt844.1 && (bt840.2.1 == bt844.2.1 && (bt840.2.2.1.toList == bt844.2.2.1.toList && (bt840.2.2.2 == bt844.2.2.2)))) = true then (if (bt828.1 == bt834.1 && (bt828.2.1 == bt834.2.1 && (bt828.2.2.1.toList == bt834.2.2.1.toList && (bt828.2.2.2.1 == bt834.2.2.2.1)))) = true then (if (bt828.2.2.2.2 == bt834.2.2.2.2) = true then ((value_Truth.f k a0_0 a0_1 a0_2 a0_3).bind fun t848 => ((r8_Truth.f k a0_0 a0_1 a0_2 a0_3).bind fun t849 => (if (t848 == t849) = true then ((value_Name.f k a0_0 a0_1 a0_2 a0_3).bind fun t850 => ((r8_Name.f k a0_0 a0_1 a0_2 a0_3).bind fun t851 => (if t850.toList = t851.toList then ((value_Show.f k a0_0 a0_1 a0_2 a0_3).bind fun t852 => ((r8_Show.f k a0_0 a0_1 a0_2 a0_3).bind fun t853 => (if t852.toList = t853.toList then ((w8_lives.f k).bind fun t854 => (some t854)) else (none)))) else (none)))) else (none)))) else (none)) else (none)) else (none)))))
def w8_ValueForms.T3 : Bool × List (List Nat × List Nat) := (true,[([],[]),([0],[0]),([],[]),([2,1],[2]),([1,3],[1,3]),([4,3],[4]),([5],[5]),([5],[5]),([6,7,5],[5,6,7]),([5,8],[5,8]),([9,5],[9]),([10],[10]),([10],[10]),([11,12,10],[10,11,12]),([10,13],[10,13]),([14,10],[14]),([15],[15]),([16,15,15],[15,16]),([15],[15]),([18,17,15],[15,18]),([17,19,15],[15,17,19]),([15,20],[15,20]),([21,19],[21]),([22],[22]),([23,22,22],[22,23]),([22],[22]),([25,24,22],[22,25]),([24,26,22],[22,24,26]),([22,27],[22,27]),([28,26],[28]),([29],[29]),([30,29,29],[29,30]),([29],[29]),([32,31,29],[29,32]),([31,33,29],[29,31,33]),([29,34],[29,34]),([35,33],[35]),([36,36],[36]),([36,37],[36,37]),([38,37,0,1,2,3,4,5,6,7,8,9,10,11,12,13,14,15,16,17,18,19,20,21,22,23,24,25,26,27,28,29,30,31,32,33,34,35,36,37,38],[38])])
def w8_ValueForms.B3 : List Nat := [0,1,0,7,15,31,63,63,255,511,1023,2047,2047,8191,16383,32767,65535,131071,65535,524287,1048575,2097151,4194303,8388607,16777215,8388607,67108863,134217727,268435455,536870911,1073741823,2147483647,1073741823,8589934591,17179869183,34359738367,68719476735,137438953471,274877906943,549755813887]
theorem w8_ValueForms.tab3 : rtab .any (opsOf Tryz.f4 3) = w8_ValueForms.T3 := by kernel_rfl
theorem w8_ValueForms.bits3 : zXS w8_ValueForms.T3.2 w8_ValueForms.B3 = true := by kernel_rfl
set_option maxHeartbeats 8000000 in
set_option maxRecDepth 100000 in
theorem w8_ValueForms.calls (k : Nat) (a0_0 : Int) (a0_1 : Int) (a0_2 : ByteArray) (a0_3 : Int) (r : Bool) (w : World) (hG : zXO w) (h : w8_ValueForms.f k a0_0 a0_1 a0_2 a0_3 = some r) :
  Calls Tryz.prog 4 #[.agg #[.int .i64 a0_0,.int .u64 a0_1,.string a0_2,.int .i64 a0_3]] w fun e w' => e = .returned (.bool r) ∧ Below w.heap.size w w' := by
 have hu25 := Tryz.underlying25;have HG := am hG;clear hG;have HB := am (Below.refl w.heap.size w);have H := h;unfold w8_ValueForms.f at H;clear h;obtain ⟨⟨aQ,aT,aU,aV,aW⟩,A2,H⟩ := oB H;(try dsimp only at H);obtain ⟨⟨aH,aI,aJ,aN,aX⟩,A3,H⟩ := oB H;(try dsimp only at H);obtain ⟨⟨aY,aZ,bA,bB⟩,A4,H⟩ := oB H;(try dsimp only at H);obtain ⟨⟨bC,bE,bF,bG⟩,A5,H⟩ := oB H;(try dsimp only at H);rcases iT H with ⟨c6,H⟩ | ⟨c6,H⟩
 ·have cK : (aY == bC && (aZ == bE && (bA.toList == bF.toList && (bB == bG)))) = true := c6;(try (have cO : decide (aY = bC && (aZ == bE && (bA.toList == bF.toList && (bB == bG)))) = true := by simpa using c6));(try (have cZ : (aY == bC && (aZ == bE && (bA.toList == bF.toList && (bB == bG)))) = true := by simpa using c6));clear c6;rcases iT H with ⟨c7,H⟩ | ⟨c7,H⟩
  ·have dA : (aQ == aH && (aT == aI && (aU.toList == aJ.toList && (aV == aN)))) = true := c7;(try (have dB : decide (aQ = aH && (aT == aI && (aU.toList == aJ.toList && (aV == aN)))) = true := by simpa using c7));(try (have dC : (aQ == aH && (aT == aI && (aU.toList == aJ.toList && (aV == aN)))) = true := by simpa using c7));clear c7;rcases iT H with ⟨c8,H⟩ | ⟨c8,H⟩
   ·have dD : (aW == aX) = true := c8;(try (have dE : decide (aW = aX) = true := by simpa using c8));(try (have dF : (aW == aX) = true := by simpa using c8));clear c8;obtain ⟨bH,A9,H⟩ := oB H;obtain ⟨bI,dH,H⟩ := oB H;rcases iT H with ⟨bJ,H⟩ | ⟨bJ,H⟩
    ·have bT : (bH == bI) = true := bJ;(try (have bV : decide (bH = bI) = true := by simpa using bJ));(try (have bW : (bH == bI) = true := by simpa using bJ));clear bJ;obtain ⟨bK,dI,H⟩ := oB H;obtain ⟨bL,dJ,H⟩ := oB H;rcases iT H with ⟨bO,H⟩ | ⟨bO,H⟩
     ·have bX : (bK.toList == bL.toList) = true := beq_iff_eq.mpr bO;have bY : (bK.toList != bL.toList) = false := bne_eq_false_iff_eq.mpr bO;clear bO;obtain ⟨bM,dK,H⟩ := oB H;obtain ⟨bN,dL,H⟩ := oB H;rcases iT H with ⟨bP,H⟩ | ⟨bP,H⟩
      ·have bZ : (bM.toList == bN.toList) = true := beq_iff_eq.mpr bP;have cB : (bM.toList != bN.toList) = false := bne_eq_false_iff_eq.mpr bP;clear bP;obtain ⟨dG,dM,H⟩ := oB H;obtain rfl := Option.some.inj H;go_enter Tryz.func4,Tryz.ntmps4;(try go_wp2_with (first | ((with_reducible refine zQp (N := 1) rfl ?_);refine zQC ?hg (N := 1) ?hd (cs := #[.int .i64 a0_0,.int .u64 a0_1,.string a0_2,.int .i64 a0_3]) (t := 25) ?hr ?_;(case hd => rfl);(case hg => rfl);(case hr => first | (go_simp;done) | (go_simp;rfl));intro aK hg dS hbox hb;have aA := am (hbox);have GW827 := am ((by rw [hg];exact (zQa pB) : w.heap.size ≤ aK));have GE827 := am ((by rw [hg];exact (zQa pB) : w.heap.size ≤ aK));replace HB := bS hb;clear hb hbox hg;have dU := cf4 aA.out) | ((with_reducible refine zQb (f := 16) rfl ?_);refine zQg (some 9) rfl rfl Tryz.func16 (by kernel_rfl) rfl #[.agg #[.int .i64 a0_0,.int .u64 a0_1,.string a0_2,.int .i64 a0_3]] rfl pM ?_;(with_reducible refine (value_Key.calls k a0_0 a0_1 a0_2 a0_3 aQ aT aU aV aW _ A2.out).mono ?_);rintro e dV ⟨rfl,hb⟩;refine ⟨_,rfl,?_⟩;replace aA := am (pkb aA.out hb);replace HB := bS hb;(try clear hb)) | ((with_reducible refine zQp (N := 3) rfl ?_);refine zQC ?hg (N := 3) ?hd (cs := #[.int .i64 0,.int .u64 0,.string (⟨#[]⟩ : ByteArray),.int .i64 0]) (t := 25) ?hr ?_;(case hd => rfl);(case hg => rfl);(case hr => first | (go_simp;done) | (go_simp;rfl));intro aM hg dW hbox hb;have aC := am (hbox);have GW833 := am ((by rw [hg];exact (zQa pB) : w.heap.size ≤ aM));have GE833 := am ((by rw [hg];exact (zQa pB) : w.heap.size ≤ aM));have NB827_833 := am ((by rw [hg];exact Nat.ne_of_lt (pkl aA.out) : aK ≠ aM));have NB833_827 := am ((by rw [hg];exact Nat.ne_of_gt (pkl aA.out) : aM ≠ aK));replace aA := am (pkb aA.out hb);replace HB := bS hb;clear hb hbox hg;have hnb23 := NB833_827.out;have hnc23 := NB827_833.out;have dX := cf4 aC.out;have dY := cf4 aA.out) | ((with_reducible refine zQb (f := 17) rfl ?_);refine zQg (some 14) rfl rfl Tryz.func17 (by kernel_rfl) rfl #[.agg #[.int .i64 a0_0,.int .u64 a0_1,.string a0_2,.int .i64 a0_3]] rfl pM ?_;(with_reducible refine (r8_Key.calls k a0_0 a0_1 a0_2 a0_3 aH aI aJ aN aX _ A3.out).mono ?_);rintro e dZ ⟨rfl,hb⟩;refine ⟨_,rfl,?_⟩;replace aA := am (zYR (g := aK) (o := .cells #[.int .i64 a0_0,.int .u64 a0_1,.string a0_2,.int .i64 a0_3] 25 (0,0)) (by (with_reducible repeat (first | refine zQc ?_ _ | refine zQe ?_ | refine zQd ?_ _));refine zQA ?_ NB827_833.out _;(with_reducible repeat (first | refine zQc ?_ _ | refine zQe ?_ | refine zQd ?_ _));refine zQA ?_ NB827_833.out _;(with_reducible repeat (first | refine zQc ?_ _ | refine zQe ?_ | refine zQd ?_ _));refine zQA ?_ NB827_833.out _;(with_reducible repeat (first | refine zQc ?_ _ | refine zQe ?_ | refine zQd ?_ _));refine zQA ?_ NB827_833.out _;exact pK aA.out) hb);replace aC := am (zYR (g := aM) (o := .cells #[.int .i64 aQ,.int .u64 aT,.string aU,.int .i64 aV] 25 (0,0)) (by (with_reducible repeat (first | refine zQc ?_ _ | refine zQe ?_ | refine zQd ?_ _));refine zQi (cs := #[.int .i64 aQ,.int .u64 aT,.string aU,.int .i64 0]) ?_ 3 _ rfl;(with_reducible repeat (first | refine zQc ?_ _ | refine zQe ?_ | refine zQd ?_ _));refine zQi (cs := #[.int .i64 aQ,.int .u64 aT,.string (⟨#[]⟩ : ByteArray),.int .i64 0]) ?_ 2 _ rfl;(with_reducible repeat (first | refine zQc ?_ _ | refine zQe ?_ | refine zQd ?_ _));refine zQi (cs := #[.int .i64 aQ,.int .u64 0,.string (⟨#[]⟩ : ByteArray),.int .i64 0]) ?_ 1 _ rfl;(with_reducible repeat (first | refine zQc ?_ _ | refine zQe ?_ | refine zQd ?_ _));refine zQi (cs := #[.int .i64 0,.int .u64 0,.string (⟨#[]⟩ : ByteArray),.int .i64 0]) ?_ 0 _ rfl;exact pK aC.out) hb);replace HB := bS hb;(try clear hb)) | ((with_reducible refine zQp (N := 5) rfl ?_);refine zQC ?hg (N := 5) ?hd (cs := #[.int .i64 0,.int .u64 0,.string (⟨#[]⟩ : ByteArray),.int .i64 0]) (t := 25) ?hr ?_;(case hd => rfl);(case hg => rfl);(case hr => first | (go_simp;done) | (go_simp;rfl));intro aG hg bQ hbox hb;have aD := am (hbox);have GW839 := am ((by rw [hg];exact (zQa pB) : w.heap.size ≤ aG));have GE839 := am ((by rw [hg];exact (zQa pB) : w.heap.size ≤ aG));have NB827_839 := am ((by rw [hg];exact Nat.ne_of_lt (pkl aA.out) : aK ≠ aG));have NB839_827 := am ((by rw [hg];exact Nat.ne_of_gt (pkl aA.out) : aG ≠ aK));replace aA := am (pkb aA.out hb);have NB833_839 := am ((by rw [hg];exact Nat.ne_of_lt (pkl aC.out) : aM ≠ aG));have NB839_833 := am ((by rw [hg];exact Nat.ne_of_gt (pkl aC.out) : aG ≠ aM));replace aC := am (pkb aC.out hb);replace HB := bS hb;clear hb hbox hg;have hnb28 := NB839_827.out;have hnc28 := NB827_839.out;have hnb29 := NB839_833.out;have hnc29 := NB833_839.out;have eB := cf4 aD.out)));have n0_ : Aside0 (((((bQ.setCell ⟨aG,0,none⟩ (.int .i64 aH)).setCell ⟨aG,1,none⟩ (.int .u64 aI)).setCell ⟨aG,2,none⟩ (.string aJ)).setCell ⟨aG,3,none⟩ (.int .i64 aN)).heap[aK]? = some (.cells #[.int .i64 a0_0,.int .u64 a0_1,.string a0_2,.int .i64 a0_3] 25 (0,0))) := ⟨by (with_reducible repeat (first | refine zQc ?_ _ | refine zQe ?_ | refine zQd ?_ _));refine zQA ?_ NB827_839.out _;(with_reducible repeat (first | refine zQc ?_ _ | refine zQe ?_ | refine zQd ?_ _));refine zQA ?_ NB827_839.out _;(with_reducible repeat (first | refine zQc ?_ _ | refine zQe ?_ | refine zQd ?_ _));refine zQA ?_ NB827_839.out _;(with_reducible repeat (first | refine zQc ?_ _ | refine zQe ?_ | refine zQd ?_ _));refine zQA ?_ NB827_839.out _;exact pK aA.out⟩;have n1_ : Aside0 (((((bQ.setCell ⟨aG,0,none⟩ (.int .i64 aH)).setCell ⟨aG,1,none⟩ (.int .u64 aI)).setCell ⟨aG,2,none⟩ (.string aJ)).setCell ⟨aG,3,none⟩ (.int .i64 aN)).heap[aM]? = some (.cells #[.int .i64 aQ,.int .u64 aT,.string aU,.int .i64 aV] 25 (0,0))) := ⟨by (with_reducible repeat (first | refine zQc ?_ _ | refine zQe ?_ | refine zQd ?_ _));refine zQA ?_ NB833_839.out _;(with_reducible repeat (first | refine zQc ?_ _ | refine zQe ?_ | refine zQd ?_ _));refine zQA ?_ NB833_839.out _;(with_reducible repeat (first | refine zQc ?_ _ | refine zQe ?_ | refine zQd ?_ _));refine zQA ?_ NB833_839.out _;(with_reducible repeat (first | refine zQc ?_ _ | refine zQe ?_ | refine zQd ?_ _));refine zQA ?_ NB833_839.out _;exact pK aC.out⟩;have n2_ : Aside0 (((((bQ.setCell ⟨aG,0,none⟩ (.int .i64 aH)).setCell ⟨aG,1,none⟩ (.int .u64 aI)).setCell ⟨aG,2,none⟩ (.string aJ)).setCell ⟨aG,3,none⟩ (.int .i64 aN)).heap[aG]? = some (.cells #[.int .i64 aH,.int .u64 aI,.string aJ,.int .i64 aN] 25 (0,0))) := ⟨by (with_reducible repeat (first | refine zQc ?_ _ | refine zQe ?_ | refine zQd ?_ _));refine zQi (cs := #[.int .i64 aH,.int .u64 aI,.string aJ,.int .i64 0]) ?_ 3 _ rfl;(with_reducible repeat (first | refine zQc ?_ _ | refine zQe ?_ | refine zQd ?_ _));refine zQi (cs := #[.int .i64 aH,.int .u64 aI,.string (⟨#[]⟩ : ByteArray),.int .i64 0]) ?_ 2 _ rfl;(with_reducible repeat (first | refine zQc ?_ _ | refine zQe ?_ | refine zQd ?_ _));refine zQi (cs := #[.int .i64 aH,.int .u64 0,.string (⟨#[]⟩ : ByteArray),.int .i64 0]) ?_ 1 _ rfl;(with_reducible repeat (first | refine zQc ?_ _ | refine zQe ?_ | refine zQd ?_ _));refine zQi (cs := #[.int .i64 0,.int .u64 0,.string (⟨#[]⟩ : ByteArray),.int .i64 0]) ?_ 0 _ rfl;exact pK aD.out⟩;have n3_ : Aside0 (Below w.heap.size w ((((bQ.setCell ⟨aG,0,none⟩ (.int .i64 aH)).setCell ⟨aG,1,none⟩ (.int .u64 aI)).setCell ⟨aG,2,none⟩ (.string aJ)).setCell ⟨aG,3,none⟩ (.int .i64 aN))) := ⟨pB⟩;(try clear aA);(try clear aC);(try clear aD);(try clear HB);generalize ((((bQ.setCell ⟨aG,0,none⟩ (.int .i64 aH)).setCell ⟨aG,1,none⟩ (.int .u64 aI)).setCell ⟨aG,2,none⟩ (.string aJ)).setCell ⟨aG,3,none⟩ (.int .i64 aN)) = dN at n0_ n1_ n2_ n3_ ⊢;have aA := n0_;have aC := n1_;have aD := n2_;have HB := n3_;clear n0_ n1_ n2_ n3_;replace aA := am (zQe aA.out);replace aC := am (zQe aC.out);replace aD := am (zQe aD.out);replace HB := am (zQL HB.out);refine zYt (n := 40) (S := fun w' => w'.cell? ⟨aK,0,none⟩ = some (.int .i64 a0_0) ∧ w'.cell? ⟨aK,1,none⟩ = some (.int .u64 a0_1) ∧ w'.cell? ⟨aK,2,none⟩ = some (.string a0_2) ∧ w'.cell? ⟨aK,3,none⟩ = some (.int .i64 a0_3) ∧ w'.cell? ⟨aM,0,none⟩ = some (.int .i64 aQ) ∧ w'.cell? ⟨aM,1,none⟩ = some (.int .u64 aT) ∧ w'.cell? ⟨aM,2,none⟩ = some (.string aU) ∧ w'.cell? ⟨aM,3,none⟩ = some (.int .i64 aV) ∧ w'.cell? ⟨aG,0,none⟩ = some (.int .i64 aH) ∧ w'.cell? ⟨aG,1,none⟩ = some (.int .u64 aI) ∧ w'.cell? ⟨aG,2,none⟩ = some (.string aJ) ∧ w'.cell? ⟨aG,3,none⟩ = some (.int .i64 aN)) (ds := []) (bm 40 0) (by kernel_rfl) rfl rfl ⟨cz0 aA.out,cz1 aA.out,cz2 aA.out,cz3 aA.out,cz0 aC.out,cz1 aC.out,cz2 aC.out,cz3 aC.out,cz0 aD.out,cz1 aD.out,cz2 aD.out,cz3 aD.out⟩ (fun hHeld => ?_);refine zXB w8_ValueForms.tab3 w8_ValueForms.bits3 (fun HT_ HW_ => ?_);generalize dN.drew = eF at aA aC aD HB hHeld ⊢
       refine take_ (i := 0) (N := some 17) (v := ?_) (a' := ?_) (bm 40 1) rfl rfl (zQV HT_.out HW_.out (by kernel_rfl)) (fun _ _ _ h => h) (Or.inl ⟨by kernel_rfl,?_⟩) hHeld ?_ ?_
       rotate_left;(rintro w' ⟨s0,s1,s2,s3,s4,s5,s6,s7,s8,s9,s10,s11⟩;go_simp;with_reducible rfl);rotate_left;exact pA
       refine take_ (i := 2) (N := some 19) (v := ?_) (a' := ?_) (bm 40 5) rfl rfl (zQV HT_.out HW_.out (by kernel_rfl)) (fun _ _ _ h => h) (Or.inl ⟨by kernel_rfl,?_⟩) hHeld ?_ ?_
       rotate_left;(rintro w' ⟨s0,s1,s2,s3,s4,s5,s6,s7,s8,s9,s10,s11⟩;go_simp;with_reducible rfl);rotate_left;exact pA;refine one_ (i := 1) (N := some 18) (bm 40 7) rfl rfl (zQS HT_.out (by kernel_rfl)) (by decide) (fun K hK => ?_)
       refine goes_ Tryz.func18 (by kernel_rfl) rfl #[.agg #[.int .i64 a0_0,.int .u64 a0_1,.string a0_2,.int .i64 a0_3]] (by rfl) rfl rfl pM ?_
       with_reducible refine (value_Normal.calls k a0_0 a0_1 a0_2 a0_3 aY aZ bA bB _ A4.out).mono ?_
       rintro e eG ⟨rfl,hb⟩;refine ⟨_,rfl,?_⟩;have n0_ := am (pkb aA.out hb);have n1_ := am (pkb aC.out hb);have n2_ := am (pkb aD.out hb);have n3_ := bS hb;clear aA aC aD HB;have aA := n0_;have aC := n1_;have aD := n2_;have HB := n3_;clear n0_ n1_ n2_ n3_;(try clear hb);refine hK.out _ _ ⟨cz0 aA.out,cz1 aA.out,cz2 aA.out,cz3 aA.out,cz0 aC.out,cz1 aC.out,cz2 aC.out,cz3 aC.out,cz0 aD.out,cz1 aD.out,cz2 aD.out,cz3 aD.out⟩ (fun hHeld => ?_);clear hK K
       refine norm_ (a' := ?_) ?_ ?_
       rotate_left;(show Act.put _ (some 18) _ = _;exact pA);refine one_ (i := 3) (N := some 20) (bm 40 15) rfl rfl (zQS HT_.out (by kernel_rfl)) (by decide) (fun K hK => ?_)
       refine goes_ Tryz.func19 (by kernel_rfl) rfl #[.agg #[.int .i64 a0_0,.int .u64 a0_1,.string a0_2,.int .i64 a0_3]] (by rfl) rfl rfl pM ?_
       with_reducible refine (r8_Normal.calls k a0_0 a0_1 a0_2 a0_3 bC bE bF bG _ A5.out).mono ?_
       rintro e eH ⟨rfl,hb⟩;refine ⟨_,rfl,?_⟩;have n0_ := am (pkb aA.out hb);have n1_ := am (pkb aC.out hb);have n2_ := am (pkb aD.out hb);have n3_ := bS hb;clear aA aC aD HB;have aA := n0_;have aC := n1_;have aD := n2_;have HB := n3_;clear n0_ n1_ n2_ n3_;(try clear hb);refine hK.out _ _ ⟨cz0 aA.out,cz1 aA.out,cz2 aA.out,cz3 aA.out,cz0 aC.out,cz1 aC.out,cz2 aC.out,cz3 aC.out,cz0 aD.out,cz1 aD.out,cz2 aD.out,cz3 aD.out⟩ (fun hHeld => ?_);clear hK K
       refine norm_ (a' := ?_) ?_ ?_
       rotate_left;(show Act.put _ (some 20) _ = _;exact pA)
       refine puA 4 (some 21) ?_ (bm 40 31) rfl rfl HT_.out (Or.inl ⟨by kernel_rfl,?_⟩) ?_ ?_ ?_
       rotate_left;(intro w';go_simp;with_reducible rfl);rotate_left;exact pA
       refine puA 5 (some 22) ?_ (bm 40 63) rfl rfl HT_.out (Or.inl ⟨by kernel_rfl,?_⟩) ?_ ?_ ?_
       rotate_left;(intro w';go_simp;with_reducible rfl);rotate_left;exact pA
       refine take_ (i := 6) (N := some 23) (v := ?_) (a' := ?_) (bm 40 127) rfl rfl (zQV HT_.out HW_.out (by kernel_rfl)) (fun _ _ _ h => h) (Or.inl ⟨by kernel_rfl,?_⟩) hHeld ?_ ?_
       rotate_left;(rintro w' ⟨s0,s1,s2,s3,s4,s5,s6,s7,s8,s9,s10,s11⟩;go_simp;with_reducible rfl);rotate_left;exact pA
       refine take_ (i := 7) (N := some 24) (v := ?_) (a' := ?_) (bm 40 255) rfl rfl (zQV HT_.out HW_.out (by kernel_rfl)) (fun _ _ _ h => h) (Or.inl ⟨by kernel_rfl,?_⟩) hHeld ?_ ?_
       rotate_left;(rintro w' ⟨s0,s1,s2,s3,s4,s5,s6,s7,s8,s9,s10,s11⟩;go_simp;with_reducible rfl);rotate_left;exact pA
       refine puA 8 (some 25) ?_ (bm 40 511) rfl rfl HT_.out (Or.inl ⟨by kernel_rfl,?_⟩) ?_ ?_ ?_
       rotate_left;(intro w';go_simp;with_reducible rfl);rotate_left;exact pA
       refine puA 9 (some 26) ?_ (bm 40 1023) rfl rfl HT_.out (Or.inl ⟨by kernel_rfl,?_⟩) ?_ ?_ ?_
       rotate_left;(intro w';go_simp;with_reducible rfl);rotate_left;exact pA
       refine puA 10 (some 27) ?_ (bm 40 2047) rfl rfl HT_.out (Or.inl ⟨by kernel_rfl,?_⟩) ?_ ?_ ?_
       rotate_left;(intro w';go_simp;with_reducible rfl);rotate_left;exact pA
       refine puA 11 (some 28) ?_ (bm 40 4095) rfl rfl HT_.out (Or.inl ⟨by kernel_rfl,?_⟩) ?_ ?_ ?_
       rotate_left;(intro w';go_simp;with_reducible rfl);rotate_left;exact pA
       refine puA 12 (some 29) ?_ (bm 40 8191) rfl rfl HT_.out (Or.inl ⟨by kernel_rfl,?_⟩) ?_ ?_ ?_
       rotate_left;(intro w';go_simp;with_reducible rfl);rotate_left;exact pA
       refine puA 13 (some 30) ?_ (bm 40 16383) rfl rfl HT_.out (Or.inl ⟨by kernel_rfl,?_⟩) ?_ ?_ ?_
       rotate_left;(intro w';go_simp;with_reducible rfl);rotate_left;exact pA
       refine puA 14 (some 31) ?_ (bm 40 32767) rfl rfl HT_.out (Or.inl ⟨by kernel_rfl,?_⟩) ?_ ?_ ?_
       rotate_left;(intro w';go_simp;with_reducible rfl);rotate_left;exact pA
       refine puA 15 (some 32) ?_ (bm 40 65535) rfl rfl HT_.out (Or.inl ⟨by kernel_rfl,?_⟩) ?_ ?_ ?_
       rotate_left;(intro w';go_simp;with_reducible rfl);rotate_left;exact pA
       refine take_ (i := 16) (N := some 33) (v := ?_) (a' := ?_) (bm 40 131071) rfl rfl (zQV HT_.out HW_.out (by kernel_rfl)) (fun _ _ _ h => h) (Or.inl ⟨by kernel_rfl,?_⟩) hHeld ?_ ?_
       rotate_left;(rintro w' ⟨s0,s1,s2,s3,s4,s5,s6,s7,s8,s9,s10,s11⟩;go_simp;with_reducible rfl);rotate_left;exact pA
       refine take_ (i := 18) (N := some 35) (v := ?_) (a' := ?_) (bm 40 393215) rfl rfl (zQV HT_.out HW_.out (by kernel_rfl)) (fun _ _ _ h => h) (Or.inl ⟨by kernel_rfl,?_⟩) hHeld ?_ ?_
       rotate_left;(rintro w' ⟨s0,s1,s2,s3,s4,s5,s6,s7,s8,s9,s10,s11⟩;go_simp;with_reducible rfl);rotate_left;exact pA;refine one_ (i := 17) (N := some 34) (bm 40 524287) rfl rfl (zQS HT_.out (by kernel_rfl)) (by decide) (fun K hK => ?_)
       refine goes_ Tryz.func20 (by kernel_rfl) rfl #[.agg #[.int .i64 a0_0,.int .u64 a0_1,.string a0_2,.int .i64 a0_3]] (by rfl) rfl rfl pM ?_
       with_reducible refine (value_Truth.calls k a0_0 a0_1 a0_2 a0_3 bH _ A9.out).mono ?_
       rintro e eO ⟨rfl,hb⟩;refine ⟨_,rfl,?_⟩;have n0_ := am (pkb aA.out hb);have n1_ := am (pkb aC.out hb);have n2_ := am (pkb aD.out hb);have n3_ := bS hb;clear aA aC aD HB;have aA := n0_;have aC := n1_;have aD := n2_;have HB := n3_;clear n0_ n1_ n2_ n3_;(try clear hb);refine hK.out _ _ ⟨cz0 aA.out,cz1 aA.out,cz2 aA.out,cz3 aA.out,cz0 aC.out,cz1 aC.out,cz2 aC.out,cz3 aC.out,cz0 aD.out,cz1 aD.out,cz2 aD.out,cz3 aD.out⟩ (fun hHeld => ?_);clear hK K
       refine norm_ (a' := ?_) ?_ ?_
       rotate_left;(show Act.put _ (some 34) _ = _;exact pA);refine one_ (i := 19) (N := some 36) (bm 40 1048575) rfl rfl (zQS HT_.out (by kernel_rfl)) (by decide) (fun K hK => ?_)
       refine goes_ Tryz.func21 (by kernel_rfl) rfl #[.agg #[.int .i64 a0_0,.int .u64 a0_1,.string a0_2,.int .i64 a0_3]] (by rfl) rfl rfl pM ?_
       with_reducible refine (r8_Truth.calls k a0_0 a0_1 a0_2 a0_3 bI _ dH.out).mono ?_
       rintro e eP ⟨rfl,hb⟩;refine ⟨_,rfl,?_⟩;have n0_ := am (pkb aA.out hb);have n1_ := am (pkb aC.out hb);have n2_ := am (pkb aD.out hb);have n3_ := bS hb;clear aA aC aD HB;have aA := n0_;have aC := n1_;have aD := n2_;have HB := n3_;clear n0_ n1_ n2_ n3_;(try clear hb);refine hK.out _ _ ⟨cz0 aA.out,cz1 aA.out,cz2 aA.out,cz3 aA.out,cz0 aC.out,cz1 aC.out,cz2 aC.out,cz3 aC.out,cz0 aD.out,cz1 aD.out,cz2 aD.out,cz3 aD.out⟩ (fun hHeld => ?_);clear hK K
       refine norm_ (a' := ?_) ?_ ?_
       rotate_left;(show Act.put _ (some 36) _ = _;exact pA)
       refine puA 20 (some 37) ?_ (bm 40 2097151) rfl rfl HT_.out (Or.inl ⟨by kernel_rfl,?_⟩) ?_ ?_ ?_
       rotate_left;(intro w';go_simp;with_reducible rfl);rotate_left;exact pA
       refine puA 21 (some 38) ?_ (bm 40 4194303) rfl rfl HT_.out (Or.inl ⟨by kernel_rfl,?_⟩) ?_ ?_ ?_
       rotate_left;(intro w';go_simp;with_reducible rfl);rotate_left;exact pA
       refine puA 22 (some 39) ?_ (bm 40 8388607) rfl rfl HT_.out (Or.inl ⟨by kernel_rfl,?_⟩) ?_ ?_ ?_
       rotate_left;(intro w';go_simp;with_reducible rfl);rotate_left;exact pA
       refine take_ (i := 23) (N := some 40) (v := ?_) (a' := ?_) (bm 40 16777215) rfl rfl (zQV HT_.out HW_.out (by kernel_rfl)) (fun _ _ _ h => h) (Or.inl ⟨by kernel_rfl,?_⟩) hHeld ?_ ?_
       rotate_left;(rintro w' ⟨s0,s1,s2,s3,s4,s5,s6,s7,s8,s9,s10,s11⟩;go_simp;with_reducible rfl);rotate_left;exact pA
       refine take_ (i := 25) (N := some 42) (v := ?_) (a' := ?_) (bm 40 50331647) rfl rfl (zQV HT_.out HW_.out (by kernel_rfl)) (fun _ _ _ h => h) (Or.inl ⟨by kernel_rfl,?_⟩) hHeld ?_ ?_
       rotate_left;(rintro w' ⟨s0,s1,s2,s3,s4,s5,s6,s7,s8,s9,s10,s11⟩;go_simp;with_reducible rfl);rotate_left;exact pA;refine one_ (i := 24) (N := some 41) (bm 40 67108863) rfl rfl (zQS HT_.out (by kernel_rfl)) (by decide) (fun K hK => ?_)
       refine goes_ Tryz.func22 (by kernel_rfl) rfl #[.agg #[.int .i64 a0_0,.int .u64 a0_1,.string a0_2,.int .i64 a0_3]] (by rfl) rfl rfl pM ?_
       with_reducible refine (value_Name.calls k a0_0 a0_1 a0_2 a0_3 bK _ ?side1 dI.out).mono ?_
       (case side1 => exact pG);rintro e eQ ⟨rfl,hb⟩;refine ⟨_,rfl,?_⟩;have n0_ := am (pkb aA.out hb);have n1_ := am (pkb aC.out hb);have n2_ := am (pkb aD.out hb);have n3_ := bS hb;clear aA aC aD HB;have aA := n0_;have aC := n1_;have aD := n2_;have HB := n3_;clear n0_ n1_ n2_ n3_;(try clear hb);refine hK.out _ _ ⟨cz0 aA.out,cz1 aA.out,cz2 aA.out,cz3 aA.out,cz0 aC.out,cz1 aC.out,cz2 aC.out,cz3 aC.out,cz0 aD.out,cz1 aD.out,cz2 aD.out,cz3 aD.out⟩ (fun hHeld => ?_);clear hK K
       refine norm_ (a' := ?_) ?_ ?_
       rotate_left;(show Act.put _ (some 41) _ = _;exact pA);refine one_ (i := 26) (N := some 43) (bm 40 134217727) rfl rfl (zQS HT_.out (by kernel_rfl)) (by decide) (fun K hK => ?_)
       refine goes_ Tryz.func23 (by kernel_rfl) rfl #[.agg #[.int .i64 a0_0,.int .u64 a0_1,.string a0_2,.int .i64 a0_3]] (by rfl) rfl rfl pM ?_
       with_reducible refine (r8_Name.calls k a0_0 a0_1 a0_2 a0_3 bL _ dJ.out).mono ?_
       rintro e eT ⟨rfl,hb⟩;refine ⟨_,rfl,?_⟩;have n0_ := am (pkb aA.out hb);have n1_ := am (pkb aC.out hb);have n2_ := am (pkb aD.out hb);have n3_ := bS hb;clear aA aC aD HB;have aA := n0_;have aC := n1_;have aD := n2_;have HB := n3_;clear n0_ n1_ n2_ n3_;(try clear hb);refine hK.out _ _ ⟨cz0 aA.out,cz1 aA.out,cz2 aA.out,cz3 aA.out,cz0 aC.out,cz1 aC.out,cz2 aC.out,cz3 aC.out,cz0 aD.out,cz1 aD.out,cz2 aD.out,cz3 aD.out⟩ (fun hHeld => ?_);clear hK K
       refine norm_ (a' := ?_) ?_ ?_
       rotate_left;(show Act.put _ (some 43) _ = _;exact pA)
       refine puA 27 (some 44) ?_ (bm 40 268435455) rfl rfl HT_.out (Or.inl ⟨by kernel_rfl,?_⟩) ?_ ?_ ?_
       rotate_left;(intro w';go_simp;with_reducible rfl);rotate_left;exact pA
       refine puA 28 (some 45) ?_ (bm 40 536870911) rfl rfl HT_.out (Or.inl ⟨by kernel_rfl,?_⟩) ?_ ?_ ?_
       rotate_left;(intro w';go_simp;with_reducible rfl);rotate_left;exact pA
       refine puA 29 (some 46) ?_ (bm 40 1073741823) rfl rfl HT_.out (Or.inl ⟨by kernel_rfl,?_⟩) ?_ ?_ ?_
       rotate_left;(intro w';go_simp;with_reducible rfl);rotate_left;exact pA
       refine take_ (i := 30) (N := some 47) (v := ?_) (a' := ?_) (bm 40 2147483647) rfl rfl (zQV HT_.out HW_.out (by kernel_rfl)) (fun _ _ _ h => h) (Or.inl ⟨by kernel_rfl,?_⟩) hHeld ?_ ?_
       rotate_left;(rintro w' ⟨s0,s1,s2,s3,s4,s5,s6,s7,s8,s9,s10,s11⟩;go_simp;with_reducible rfl);rotate_left;exact pA
       refine take_ (i := 32) (N := some 49) (v := ?_) (a' := ?_) (bm 40 6442450943) rfl rfl (zQV HT_.out HW_.out (by kernel_rfl)) (fun _ _ _ h => h) (Or.inl ⟨by kernel_rfl,?_⟩) hHeld ?_ ?_
       rotate_left;(rintro w' ⟨s0,s1,s2,s3,s4,s5,s6,s7,s8,s9,s10,s11⟩;go_simp;with_reducible rfl);rotate_left;exact pA;refine one_ (i := 31) (N := some 48) (bm 40 8589934591) rfl rfl (zQS HT_.out (by kernel_rfl)) (by decide) (fun K hK => ?_)
       refine goes_ Tryz.func15 (by kernel_rfl) rfl #[.agg #[.int .i64 a0_0,.int .u64 a0_1,.string a0_2,.int .i64 a0_3]] (by rfl) rfl rfl pM ?_
       with_reducible refine (value_Show.calls k a0_0 a0_1 a0_2 a0_3 bM _ ?side1 dK.out).mono ?_
       (case side1 => exact pG);rintro e eX ⟨rfl,hb⟩;refine ⟨_,rfl,?_⟩;have n0_ := am (pkb aA.out hb);have n1_ := am (pkb aC.out hb);have n2_ := am (pkb aD.out hb);have n3_ := bS hb;clear aA aC aD HB;have aA := n0_;have aC := n1_;have aD := n2_;have HB := n3_;clear n0_ n1_ n2_ n3_;(try clear hb);refine hK.out _ _ ⟨cz0 aA.out,cz1 aA.out,cz2 aA.out,cz3 aA.out,cz0 aC.out,cz1 aC.out,cz2 aC.out,cz3 aC.out,cz0 aD.out,cz1 aD.out,cz2 aD.out,cz3 aD.out⟩ (fun hHeld => ?_);clear hK K
       refine norm_ (a' := ?_) ?_ ?_
       rotate_left;(show Act.put _ (some 48) _ = _;exact pA);refine one_ (i := 33) (N := some 50) (bm 40 17179869183) rfl rfl (zQS HT_.out (by kernel_rfl)) (by decide) (fun K hK => ?_)
       refine goes_ Tryz.func24 (by kernel_rfl) rfl #[.agg #[.int .i64 a0_0,.int .u64 a0_1,.string a0_2,.int .i64 a0_3]] (by rfl) rfl rfl pM ?_
       with_reducible refine (r8_Show.calls k a0_0 a0_1 a0_2 a0_3 bN _ dL.out).mono ?_
       rintro e eY ⟨rfl,hb⟩;refine ⟨_,rfl,?_⟩;have n0_ := am (pkb aA.out hb);have n1_ := am (pkb aC.out hb);have n2_ := am (pkb aD.out hb);have n3_ := bS hb;clear aA aC aD HB;have aA := n0_;have aC := n1_;have aD := n2_;have HB := n3_;clear n0_ n1_ n2_ n3_;(try clear hb);refine hK.out _ _ ⟨cz0 aA.out,cz1 aA.out,cz2 aA.out,cz3 aA.out,cz0 aC.out,cz1 aC.out,cz2 aC.out,cz3 aC.out,cz0 aD.out,cz1 aD.out,cz2 aD.out,cz3 aD.out⟩ (fun hHeld => ?_);clear hK K
       refine norm_ (a' := ?_) ?_ ?_
       rotate_left;(show Act.put _ (some 50) _ = _;exact pA)
       refine puA 34 (some 51) ?_ (bm 40 34359738367) rfl rfl HT_.out (Or.inl ⟨by kernel_rfl,?_⟩) ?_ ?_ ?_
       rotate_left;(intro w';go_simp;with_reducible rfl);rotate_left;exact pA
       refine puA 35 (some 52) ?_ (bm 40 68719476735) rfl rfl HT_.out (Or.inl ⟨by kernel_rfl,?_⟩) ?_ ?_ ?_
       rotate_left;(intro w';go_simp;with_reducible rfl);rotate_left;exact pA
       refine puA 36 (some 53) ?_ (bm 40 137438953471) rfl rfl HT_.out (Or.inl ⟨by kernel_rfl,?_⟩) ?_ ?_ ?_
       rotate_left;(intro w';go_simp;with_reducible rfl);rotate_left;exact pA;refine one_ (i := 37) (N := some 54) (bm 40 274877906943) rfl rfl (zQS HT_.out (by kernel_rfl)) (by decide) (fun K hK => ?_)
       refine goes_ Tryz.func14 (by kernel_rfl) rfl #[] (by rfl) rfl rfl pM ?_
       with_reducible refine (w8_lives.calls k  dG _ ?side1 dM.out).mono ?_
       (case side1 => exact pG);rintro e eZ ⟨rfl,hb⟩;refine ⟨_,rfl,?_⟩;have n0_ := am (pkb aA.out hb);have n1_ := am (pkb aC.out hb);have n2_ := am (pkb aD.out hb);have n3_ := bS hb;clear aA aC aD HB;have aA := n0_;have aC := n1_;have aD := n2_;have HB := n3_;clear n0_ n1_ n2_ n3_;(try clear hb);refine hK.out _ _ ⟨cz0 aA.out,cz1 aA.out,cz2 aA.out,cz3 aA.out,cz0 aC.out,cz1 aC.out,cz2 aC.out,cz3 aC.out,cz0 aD.out,cz1 aD.out,cz2 aD.out,cz3 aD.out⟩ (fun hHeld => ?_);clear hK K
       refine norm_ (a' := ?_) ?_ ?_
       rotate_left;(show Act.put _ (some 54) _ = _;exact pA)
       refine puA 38 (some 55) ?_ (bm 40 549755813887) rfl rfl HT_.out (Or.inl ⟨by kernel_rfl,?_⟩) ?_ ?_ ?_
       rotate_left;(intro w';go_simp;with_reducible rfl);rotate_left;exact pA
       refine puA 39 (some 2) ?_ (bm 40 1099511627775) rfl rfl HT_.out (Or.inl ⟨by kernel_rfl,?_⟩) ?_ ?_ ?_
       rotate_left;(intro w';go_simp;with_reducible rfl);rotate_left;exact pA
       refine done_ (zYr HT_.out (by kernel_rfl)) ?_
       try go_wp2
       go_ret
       exact ⟨pE,pB⟩
      ·have bZ : (bM.toList == bN.toList) = false := beq_eq_false_iff_ne.mpr bP;have cB : (bM.toList != bN.toList) = true := bne_iff_ne.mpr bP
       cases H
     ·have bX : (bK.toList == bL.toList) = false := beq_eq_false_iff_ne.mpr bO;have bY : (bK.toList != bL.toList) = true := bne_iff_ne.mpr bO
      cases H
    ·(have bT : (bH == bI) = false := by simpa using bJ);(try (have bV : decide (bH = bI) = false := by simpa using bJ));(try (have bW : (bH == bI) = false := by simpa using bJ));(try (have dO : ¬ (bH = bI) := by simpa using bJ));clear bJ
     cases H
   ·(have dD : (aW == aX) = false := by simpa using c8);(try (have dE : decide (aW = aX) = false := by simpa using c8));(try (have dF : (aW == aX) = false := by simpa using c8));(try (have dP : ¬ (aW = aX) := by simpa using c8));clear c8
    cases H
  ·(have dA : (aQ == aH && (aT == aI && (aU.toList == aJ.toList && (aV == aN)))) = false := by simpa using c7);(try (have dB : decide (aQ = aH && (aT == aI && (aU.toList == aJ.toList && (aV == aN)))) = false := by simpa using c7));(try (have dC : (aQ == aH && (aT == aI && (aU.toList == aJ.toList && (aV == aN)))) = false := by simpa using c7));(try (have dQ : ¬ (aQ = aH && (aT == aI && (aU.toList == aJ.toList && (aV == aN)))) := by simpa using c7));clear c7
   cases H
 ·(have cK : (aY == bC && (aZ == bE && (bA.toList == bF.toList && (bB == bG)))) = false := by simpa using c6);(try (have cO : decide (aY = bC && (aZ == bE && (bA.toList == bF.toList && (bB == bG)))) = false := by simpa using c6));(try (have cZ : (aY == bC && (aZ == bE && (bA.toList == bF.toList && (bB == bG)))) = false := by simpa using c6));(try (have dR : ¬ (aY = bC && (aZ == bE && (bA.toList == bF.toList && (bB == bG)))) := by simpa using c6));clear c6
  cases H
end Go.Proofs.YtongfmeediokmaaGreatDoor.Pr
end
section
namespace Go.Proofs.YtongfmeediokmaaGreatDoor.Pure
open Go.RowKit YtongfmeediokmaaGreatDoor.Pr YtongfmeediokmaaGreatDoorW.PrintWords YtongfmeediokmaaGreatDoorW.PrintLast YtongfmeediokmaaGreatDoorW.PrintMore
def toB (x : Nat) : List Int := if x = 0 then [] else ((x % 4294967296 : Nat) : Int) :: toB (x / 4294967296)
termination_by x
decreasing_by omega
theorem zXT : toB 0 = [] := by rw [toB];rfl
theorem zZw {x : Nat} (h : x ≠ 0) : toB x = ((x % 4294967296 : Nat) : Int) :: toB (x / 4294967296) := by rw [toB,if_neg h]
def valB : List Int → Nat
 | [] => 0
 | a :: l => a.toNat + 4294967296 * valB l
def Parts (l : List Int) : Prop := ∀ x ∈ l,0 ≤ x ∧ x < 4294967296
theorem zYi (x : Nat) : valB (toB x) = x := by
 induction x using Nat.strongRecOn with
 | _ x ih =>
  by_cases h : x = 0
  ·subst h;rw [zXT];rfl
  ·rw [zZw h,valB,ih (x / 4294967296) zO,Int.toNat_natCast];omega
theorem zXJ (x : Nat) : Parts (toB x) := by
 induction x using Nat.strongRecOn with
 | _ x ih =>
  by_cases h : x = 0
  ·subst h;rw [zXT];intro y hy;cases hy
  ·rw [zZw h];intro y hy;rcases List.mem_cons.1 hy with rfl | hy
   ·omega
   ·exact ih (x / 4294967296) zO y hy
theorem val_append (l m : List Int) : valB (l ++ m) = valB l + 4294967296 ^ l.length * valB m := by
 induction l with
 | nil => simp [valB]
 | cons a l ih =>
  rw [List.cons_append,valB,valB,ih,List.length_cons,Nat.pow_succ,Nat.mul_add,← Nat.mul_assoc,Nat.mul_comm 4294967296 (4294967296 ^ l.length)];omega
theorem zBd {l : List Int} (h : Parts l) : valB l < 4294967296 ^ l.length := by
 induction l with
 | nil => simp [valB]
 | cons a l ih =>
  have h1 := ih (fun x hx => h x (List.mem_cons_of_mem _ hx));have h2 := h a (List.mem_cons_self ..);rw [valB,List.length_cons,Nat.pow_succ];omega
theorem zHy {l : List Int} (h : Parts l) (hl : l = [] ∨ l.getLast? ≠ some 0) : toB (valB l) = l := by
 induction l with
 | nil => exact zXT
 | cons a l ih =>
  have h2 := h a (List.mem_cons_self ..);(have hp : Parts l := fun x hx => h x (List.mem_cons_of_mem _ hx));have hlast : (a :: l).getLast? ≠ some 0 := hl.resolve_left (by simp)
  have hne : valB (a :: l) ≠ 0 := by
   intro h0;rw [valB] at h0;by_cases hn : l = []
   ·subst hn;simp at hlast;omega
   ·have := ih hp (.inr (by
     cases l with
     | nil => exact absurd rfl hn
     | cons b l => rwa [List.getLast?_cons_cons] at hlast))
    (have h3 : valB l = 0 := by omega);rw [h3,zXT] at this;exact hn this.symm
  rw [zZw hne];(have e1 : (valB (a :: l) % 4294967296 : Nat) = a.toNat := by rw [valB];omega);have e2 : valB (a :: l) / 4294967296 = valB l := by rw [valB];omega
  rw [e1,e2,ih hp (by
   by_cases hn : l = []
   ·exact .inl hn
   ·refine .inr ?_
    cases l with
    | nil => exact absurd rfl hn
    | cons b l => rwa [List.getLast?_cons_cons] at hlast)]
  congr 1
  omega
theorem wrapB (n : Int) (h0 : -9223372036854775808 ≤ n) (h1 : n ≤ 9223372036854775807) : wrap64 n = n := by unfold wrap64;omega
theorem zYf {l m : List Int} (h : Parts l) (g : Parts m) : Parts (l ++ m) := fun x hx => (List.mem_append.1 hx).elim (h x) (g x)
theorem zJN (m : List Int) (a : Int) : rd (m ++ [a]) (m.length : Int) = a := by
 unfold rd;rw [Int.toNat_natCast,List.getD_eq_getElem?_getD,List.getElem?_append_right (Nat.le_refl _),Nat.sub_self]
 rfl
theorem zZX : ∀ (n : Nat) (l : List Int),l.length = n → Parts l → n ≤ 4611686018427387904 → Ev (fun k => b_trim.l0 k l) (toB (valB l))
 | 0,l,hn,hp,hb => by
  obtain rfl := List.eq_nil_of_length_eq_zero hn;refine Ev.step (f := fun k => some []) (fun k => ?_) (by rw [show valB [] = 0 from rfl,zXT];exact Ev.now _);rw [b_trim.l0,if_neg (by simp)]
 | n + 1,l,hn,hp,hb => by
  obtain ⟨m,a,rfl⟩ : ∃ m a,l = m ++ [a] := ⟨l.dropLast,l.getLast (by intro h;rw [h] at hn;cases hn),(List.dropLast_concat_getLast _).symm⟩;(have hm : m.length = n := by rw [List.length_append,List.length_singleton] at hn;omega);(have hlen : (((m ++ [a]).length : Nat) : Int) = (m.length : Int) + 1 := by rw [List.length_append,List.length_singleton];omega);(have hw : wrap64 (((m ++ [a]).length : Int) - 1) = (m.length : Int) := by rw [hlen,wrapB _ zO zO];omega);(have hpm : Parts m := fun x hx => hp x (List.mem_append_left _ hx));have ha := hp a (List.mem_append_right _ (List.mem_singleton.2 rfl));by_cases h0 : a = 0
  ·have ih := zZX n m hm hpm zO;(have hv : valB (m ++ [a]) = valB m := by rw [val_append,h0];simp [valB]);rw [hv];refine Ev.step (fun k => ?_) ih;rw [b_trim.l0,if_pos zO,hw,if_pos zO,if_pos zO,zJN,if_pos h0,if_pos zO,Int.toNat_natCast,List.take_left']
   rfl
  ·refine Ev.step (f := fun k => some (m ++ [a])) (fun k => ?_) ?_
   ·rw [b_trim.l0,if_pos zO,hw,if_pos zO,if_pos zO,zJN,if_neg h0]
   ·rw [zHy hp (.inr (by rw [List.getLast?_append];simp;exact h0))]
    exact Ev.now _
theorem zVE {x n c : Nat} (hx : x < 4294967296) (hn : n < 4294967296) (hc : c < 4294967296) : c + x * n < 18446744073709551616 ∧ (c + x * n) / 4294967296 < 4294967296 := by
 have h : x * n ≤ 4294967295 * 4294967295 := Nat.mul_le_mul zO zO;have h2 : (4294967295 : Nat) * 4294967295 = 18446744065119617025 := rfl;omega
theorem u64_in (n : Nat) (h : n < 18446744073709551616) : IntKind.u64.wrap (n : Int) = (n : Int) := by
 unfold IntKind.wrap;simp [IntKind.bits,IntKind.signed];omega
theorem zBe {l : List Int} {i : Nat} (h : i < l.length) : valB (l.drop i) = (l.getD i 0).toNat + 4294967296 * valB (l.drop (i + 1)) := by
 rw [List.drop_eq_getElem_cons h,valB,List.getD_eq_getElem?_getD,List.getElem?_eq_getElem h]
 rfl
theorem zKO (l : List Int) (n : Nat) (hn : n < 4294967296) (hl : l.length ≤ 1048576) (hp : Parts l) : ∀ (d i : Nat) (acc : List Int) (c : Nat),i + d = l.length → acc.length = i → Parts acc → c < 4294967296 →
  Ev (fun k => b_times.l0 k (n : Int) acc (c : Int) l (l.length : Int) (i : Int)) (toB (valB acc + 4294967296 ^ i * (valB (l.drop i) * n + c)))
 | 0,i,acc,c,hi,ha,hpa,hc => by
  have hd : l.drop i = [] := List.drop_eq_nil_of_le zO
  have hv : valB acc + 4294967296 ^ i * (valB (l.drop i) * n + c) = valB (acc ++ [(c : Int) % 4294967296]) := by
   rw [hd,val_append,ha];simp only [valB,Nat.zero_mul,Nat.zero_add,Nat.mul_zero,Nat.add_zero]
   congr 2
   omega
  rw [hv];have ht := zZX (acc ++ [(c : Int) % 4294967296]).length (acc ++ [(c : Int) % 4294967296]) rfl (zYf hpa (fun x hx => by rw [List.mem_singleton.1 hx];omega)) (by rw [List.length_append,List.length_singleton];omega);have hb : Ev (fun k => (b_trim.f k (acc ++ [(c : Int) % 4294967296])).bind fun t => some t) (toB (valB (acc ++ [(c : Int) % 4294967296]))) := Ev.bind ht (Ev.now _);refine Ev.step (fun k => ?_) hb;rw [b_times.l0,if_neg zO,if_pos zO]
 | d + 1,i,acc,c,hi,ha,hpa,hc => by
  have hlt : i < l.length := by omega
  obtain ⟨x,hx,hx2⟩ : ∃ x : Nat,l.getD i 0 = (x : Int) ∧ x < 4294967296 := by
   have := hp (l.getD i 0) (by rw [List.getD_eq_getElem?_getD,List.getElem?_eq_getElem hlt];exact List.getElem_mem hlt);exact ⟨(l.getD i 0).toNat,by omega,by omega⟩
  (have hrd : rd l (i : Int) = (x : Int) := by unfold rd;rw [Int.toNat_natCast];exact hx);obtain ⟨hs1,hs2⟩ := zVE hx2 hn hc;have hxn : x * n < 18446744073709551616 := by omega
  have he : IntKind.u64.wrap ((c : Int) + (IntKind.u64.wrap ((IntKind.u64.wrap (rd l (i : Int))) * (IntKind.u64.wrap ((n : Nat) : Int))))) = ((c + x * n : Nat) : Int) := by
   rw [hrd,u64_in x zO,u64_in n zO,show ((x : Int) * (n : Int)) = ((x * n : Nat) : Int) by push_cast;rfl,u64_in _ hxn,show ((c : Int) + ((x * n : Nat) : Int)) = ((c + x * n : Nat) : Int) by push_cast;rfl,u64_in _ hs1]
  have ih := zKO l n hn hl hp d (i + 1) (acc ++ [(((c + x * n) % 4294967296 : Nat) : Int)]) ((c + x * n) / 4294967296) zO (by rw [List.length_append,List.length_singleton];omega) (zYf hpa (fun y hy => by rw [List.mem_singleton.1 hy];omega)) hs2
  have hv : valB acc + 4294967296 ^ i * (valB (l.drop i) * n + c) = valB (acc ++ [(((c + x * n) % 4294967296 : Nat) : Int)]) + 4294967296 ^ (i + 1) * (valB (l.drop (i + 1)) * n + (c + x * n) / 4294967296) := by
   rw [val_append,ha,zBe hlt,hx,Int.toNat_natCast,Nat.pow_succ,Nat.mul_assoc,Nat.add_assoc,← Nat.mul_add];simp only [valB,Nat.mul_zero,Nat.add_zero,Int.toNat_natCast]
   congr 2
   rw [Nat.add_mul,Nat.mul_assoc,Nat.mul_add];generalize valB (l.drop (i + 1)) * n = v;have := Nat.mod_add_div (c + x * n) 4294967296;omega
  rw [hv];refine Ev.step (fun k => ?_) ih;rw [b_times.l0,if_pos zO,if_pos zO,if_pos zO,if_pos zO,he,wrapB _ zO zO];simp only [Int.natCast_emod,Int.natCast_ediv,Int.natCast_add,Int.natCast_one]
  rfl
theorem zZP (x n m : Nat) (hn : n < 4294967296) (hm : m < 4294967296) (hl : (toB x).length ≤ 1048576) : Ev (fun k => b_times.f k (toB x) (n : Int) (m : Int)) (toB (x * n + m)) := by
 have h := zKO (toB x) n hn hl (zXJ x) (toB x).length 0 [] m zO rfl (fun y hy => by cases hy) hm;rw [List.drop_zero,zYi,Nat.pow_zero,Nat.one_mul] at h;(have e : valB [] + (x * n + m) = x * n + m := by simp [valB]);rw [e] at h;refine Ev.congr (fun k => ?_) h;unfold b_times.f;rw [wrapB _ zO zO,if_pos zO,if_pos zO,u64_in m zO]
 rfl
theorem zKo : ∀ (L x : Nat),x < 4294967296 ^ L → (toB x).length ≤ L
 | 0,x,h => by
  have : x = 0 := by rw [Nat.pow_zero] at h;omega
  rw [this,zXT];exact Nat.le_refl _
 | L + 1,x,h => by
  by_cases h0 : x = 0
  ·rw [h0,zXT];exact Nat.zero_le _
  ·rw [zZw h0,List.length_cons]
   have : x / 4294967296 < 4294967296 ^ L := by
    rw [Nat.pow_succ] at h;exact Nat.div_lt_of_lt_mul (by rw [Nat.mul_comm];exact h)
   have := zKo L _ this;omega
theorem tens1 (n : Nat) (hn : n ≤ 1048576) (L : Nat) (hL : L ≤ 1048576) : ∀ (d j x : Nat),j + d = n → x * 10 ^ d < 4294967296 ^ L → Ev (fun k => b_tens.l1 k (toB x) (n : Int) (j : Int)) (toB (x * 10 ^ d))
 | 0,j,x,hj,hx => by
  rw [Nat.pow_zero,Nat.mul_one];refine Ev.step (f := fun k => some (toB x)) (fun k => ?_) (Ev.now _);rw [b_tens.l1,if_neg zO]
 | d + 1,j,x,hj,hx => by
  (have h1 : x * 10 * 10 ^ d = x * 10 ^ (d + 1) := by rw [Nat.pow_succ,Nat.mul_assoc,Nat.mul_comm 10]);have hxl : x < 4294967296 ^ L := Nat.lt_of_le_of_lt (Nat.le_mul_of_pos_right _ (Nat.pow_pos (by decide))) hx;have ih := tens1 n hn L hL d (j + 1) (x * 10) zO (by rw [h1];exact hx);rw [h1] at ih;have ht := zZP x 10 0 (by decide) (by decide) (Nat.le_trans (zKo L x hxl) hL);rw [Nat.add_zero] at ht;have hb : Ev (fun k => (b_times.f k (toB x) 10 0).bind fun t => b_tens.l1 k t (n : Int) ((j + 1 : Nat) : Int)) (toB (x * 10 ^ (d + 1))) := Ev.bind ht ih;refine Ev.step (fun k => ?_) hb;rw [b_tens.l1,if_pos zO,wrapB _ zO zO]
  rfl
theorem tens0 (L : Nat) (hL : L ≤ 1048576) : ∀ (n x : Nat),n ≤ 1048576 → x * 10 ^ n < 4294967296 ^ L → Ev (fun k => b_tens.l0 k (toB x) (n : Int)) (toB (x * 10 ^ n)) := by
 intro n
 induction n using Nat.strongRecOn with
 | _ n ih =>
  intro x hn hx;by_cases h9 : 9 ≤ n
  ·obtain ⟨m,rfl⟩ := Nat.exists_eq_add_of_le h9;(have h1 : x * 1000000000 * 10 ^ m = x * 10 ^ (9 + m) := by rw [Nat.pow_add,← Nat.mul_assoc]);have hxl : x < 4294967296 ^ L := Nat.lt_of_le_of_lt (Nat.le_mul_of_pos_right _ (Nat.pow_pos (by decide))) hx;have g := ih m zO (x * 1000000000) zO (by rw [h1];exact hx);rw [h1] at g;have ht := zZP x 1000000000 0 (by decide) (by decide) (Nat.le_trans (zKo L x hxl) hL);rw [Nat.add_zero] at ht;have hb : Ev (fun k => (b_times.f k (toB x) 1000000000 0).bind fun t => b_tens.l0 k t (m : Int)) (toB (x * 10 ^ (9 + m))) := Ev.bind ht g;refine Ev.step (fun k => ?_) hb;rw [b_tens.l0,if_pos zO,wrapB _ zO zO,show (((9 + m : Nat) : Int) - 9) = (m : Int) by omega]
  ·have g := tens1 n hn L hL n 0 x zO hx;refine Ev.step (fun k => ?_) g;rw [b_tens.l0,if_neg zO]
   rfl
theorem bitLen_spec : ∀ (x : Nat),x ≠ 0 → x < 2 ^ 64 → 1 ≤ Lib.bitLen x ∧ 2 ^ (Lib.bitLen x - 1) ≤ x ∧ x < 2 ^ (Lib.bitLen x) := by
 intro x
 induction x using Nat.strongRecOn with
 | _ x ih =>
  intro h0 h;rw [Lib.bitLen_half x h0 h];by_cases h1 : x / 2 = 0
  ·obtain rfl : x = 1 := by omega
   decide
  ·obtain ⟨c,a,b⟩ := ih (x / 2) zO h1 zO;obtain ⟨n,hn⟩ : ∃ n,Lib.bitLen (x / 2) = n + 1 := ⟨_,(Nat.sub_add_cancel c).symm⟩;rw [hn] at a b ⊢;rw [Nat.add_sub_cancel] at a;refine ⟨by omega,?_,?_⟩
   ·rw [show 1 + (n + 1) - 1 = n + 1 by omega,Nat.pow_succ];omega
   ·rw [show 1 + (n + 1) = (n + 1) + 1 by omega,Nat.pow_succ 2 (n + 1)];omega
def LenIs (x L : Nat) : Prop := (x = 0 → L = 0) ∧ (x ≠ 0 → 1 ≤ L ∧ 2 ^ (L - 1) ≤ x ∧ x < 2 ^ L)
theorem zGH {x L : Nat} (h : LenIs x L) : x < 2 ^ L := by
 by_cases h0 : x = 0
 ·rw [h0];exact Nat.two_pow_pos _
 ·exact (h.2 h0).2.2
theorem zZt (n : Nat) : (4294967296 : Nat) ^ n = 2 ^ (32 * n) := by rw [Nat.pow_mul]
theorem zGY (n : Nat) : 0 < (4294967296 : Nat) ^ n := Nat.pow_pos (by decide)
theorem zGq {x : Nat} (h : x ≠ 0) : ∃ (m : List Int) (a : Nat),toB x = m ++ [(a : Int)] ∧ 0 < a ∧ a < 4294967296 := by
 induction x using Nat.strongRecOn with
 | _ x ih =>
  rw [zZw h];by_cases h1 : x / 4294967296 = 0
  ·rw [h1,zXT];exact ⟨[],x % 4294967296,rfl,by omega,by omega⟩
  ·obtain ⟨m,a,e,h2,h3⟩ := ih (x / 4294967296) zO h1;exact ⟨_ :: m,a,by rw [e];rfl,h2,h3⟩
theorem zWK {x : Nat} (h : x ≠ 0) : ∃ (m : List Int) (a : Nat),toB x = m ++ [(a : Int)] ∧ 0 < a ∧ a < 4294967296 ∧ x = valB m + 4294967296 ^ m.length * a ∧ valB m < 4294967296 ^ m.length := by
 obtain ⟨m,a,e,h1,h2⟩ := zGq h;refine ⟨m,a,e,h1,h2,?_,?_⟩
 ·have := zYi x;rw [e,val_append] at this;rw [← this];simp [valB]
 ·have hp := zXJ x;rw [e] at hp;exact zBd fun y hy => hp y (List.mem_append_left _ hy)
theorem zHl (x : Nat) (hl : (toB x).length ≤ 1048576) : ∃ L : Nat,b_len.f (toB x) = some (L : Int) ∧ LenIs x L ∧ L ≤ 32 * (toB x).length := by
 by_cases h0 : x = 0
 ·subst h0;refine ⟨0,?_,⟨fun _ => rfl,fun h => absurd rfl h⟩,by omega⟩;rw [zXT]
  rfl
 ·obtain ⟨m,a,e,h1,h2,hx,hm⟩ := zWK h0;obtain ⟨b1,b2,b3⟩ := bitLen_spec a zO zO;have b4 := Lib.bitLen_le a 32 zO zO;refine ⟨32 * m.length + Lib.bitLen a,?_,⟨fun h => absurd h h0,fun _ => ⟨by omega,?_,?_⟩⟩,?_⟩
  ·(have hlen : (((toB x).length : Nat) : Int) = (m.length : Int) + 1 := by rw [e,List.length_append,List.length_singleton];omega);(have hml : m.length < 1048576 := by rw [e,List.length_append,List.length_singleton] at hl;omega);unfold b_len.f;rw [hlen,if_neg zO,wrapB _ zO zO,if_pos zO,if_pos zO,show ((m.length : Int) + 1 - 1) = (m.length : Int) by omega,e,zJN];unfold bits_Len32.f;rw [if_pos zO,Option.bind_some,Int.toNat_natCast,wrapB (32 * _) zO zO,wrapB _ zO zO]
   congr 1
  ·rw [show 32 * m.length + Lib.bitLen a - 1 = 32 * m.length + (Lib.bitLen a - 1) by omega,Nat.pow_add,← zZt];have := Nat.mul_le_mul_left (4294967296 ^ m.length) b2;omega
  ·rw [Nat.pow_add,← zZt];have := Nat.mul_le_mul_left (4294967296 ^ m.length) b3;rw [Nat.mul_succ] at this;omega
  ·rw [e,List.length_append,List.length_singleton];omega
theorem zKN {x y : Nat} (h : (toB x).length < (toB y).length) : x < y := by
 have h1 : x < 4294967296 ^ (toB x).length := by
  have := zBd (zXJ x)
  rwa [zYi] at this
 (have hy : y ≠ 0 := by intro h0;rw [h0,zXT] at h;exact absurd h (Nat.not_lt_zero _));obtain ⟨m,a,e,h2,h3,h4,h5⟩ := zWK hy;rw [e,List.length_append,List.length_singleton] at h;have h6 : 4294967296 ^ (toB x).length ≤ 4294967296 ^ m.length := Nat.pow_le_pow_right (by decide) zO;have h7 : 4294967296 ^ m.length * 1 ≤ 4294967296 ^ m.length * a := Nat.mul_le_mul_left _ h2;omega
theorem zBt {x y : Nat} (h : x ≤ y) : (toB x).length ≤ (toB y).length := by
 apply Nat.le_of_not_lt;intro hlt;have := zKN hlt;omega
theorem zBc {l : List Int} {i : Nat} (h : i < l.length) : valB (l.take (i + 1)) = valB (l.take i) + 4294967296 ^ i * (l.getD i 0).toNat := by
 rw [List.take_succ_eq_append_getElem h,val_append,List.length_take,Nat.min_eq_left (Nat.le_of_lt h),List.getD_eq_getElem?_getD,List.getElem?_eq_getElem h];simp [valB]
theorem zZU {l : List Int} (hp : Parts l) {i : Nat} (h : i ≤ l.length) : valB (l.take i) < 4294967296 ^ i := by
 have := zBd (l := l.take i) (fun x hx => hp x (List.mem_of_mem_take hx))
 rwa [List.length_take,Nat.min_eq_left h] at this
theorem getD_in {l : List Int} (hp : Parts l) {i : Nat} (h : i < l.length) : ∃ a : Nat,l.getD i 0 = (a : Int) ∧ a < 4294967296 := by
 have := hp (l.getD i 0) (by rw [List.getD_eq_getElem?_getD,List.getElem?_eq_getElem h];exact List.getElem_mem h);exact ⟨(l.getD i 0).toNat,by omega,by omega⟩
theorem zYe (l : List Int) (i : Nat) : rd l (i : Int) = l.getD i 0 := by unfold rd;rw [Int.toNat_natCast]
theorem zBB (l m : List Int) (hp : Parts l) (hm : Parts m) (hlen : l.length = m.length) (hb : l.length ≤ 1048576) : ∀ i,i ≤ l.length →
  ∃ c : Int,Ev (fun k => b_cmp.l0 k l m ((i : Int) - 1)) c ∧ (c < 0 ↔ valB (l.take i) < valB (m.take i)) ∧ (c = 0 ↔ valB (l.take i) = valB (m.take i))
 | 0,_ => by
  refine ⟨0,Ev.step (f := fun _ => some 0) (fun k => ?_) (Ev.now _),by simp [valB],by simp [valB]⟩;rw [b_cmp.l0,if_neg zO]
 | i + 1,hi => by
  obtain ⟨a,ha,ha2⟩ := getD_in hp (i := i) zO;obtain ⟨b,hb',hb2⟩ := getD_in hm (i := i) zO;(have ha3 : (l.getD i 0).toNat = a := by rw [ha];rfl);(have hb3 : (m.getD i 0).toNat = b := by rw [hb'];rfl);have e1 := zBc (l := l) (i := i) zO;have e2 := zBc (l := m) (i := i) zO;have t1 := zZU hp (i := i) zO;have t2 := zZU hm (i := i) zO;rw [ha3] at e1;rw [hb3] at e2;(have hk : ((i + 1 : Nat) : Int) - 1 = (i : Int) := by omega);rw [hk,e1,e2];obtain ⟨P,hP⟩ : ∃ P,P = 4294967296 ^ i := ⟨_,rfl⟩;rw [← hP] at t1 t2 ⊢;by_cases hab : a = b
  ·obtain ⟨c,hc,c1,c2⟩ := zBB l m hp hm hlen hb i zO;refine ⟨c,Ev.step (fun k => ?_) hc,?_,?_⟩
   ·rw [b_cmp.l0,if_pos zO,if_pos zO,if_pos zO,if_pos zO,zYe,zYe,if_pos (by rw [ha,hb',hab]),wrapB _ zO zO]
   ·rw [c1,hab];omega
   ·rw [c2,hab];omega
  ·by_cases hlt : a < b
   ·refine ⟨-1,Ev.step (f := fun _ => some (-1)) (fun k => ?_) (Ev.now _),?_,?_⟩
    ·rw [b_cmp.l0,if_pos zO,if_pos zO,if_pos zO,if_pos zO,zYe,zYe,if_neg (by rw [ha,hb'];omega),if_pos (by rw [ha,hb'];omega)]
    ·have : P * (a + 1) ≤ P * b := Nat.mul_le_mul_left _ hlt;rw [Nat.mul_succ] at this;omega
    ·have : P * (a + 1) ≤ P * b := Nat.mul_le_mul_left _ hlt;rw [Nat.mul_succ] at this;omega
   ·(have hlt' : b < a := by omega);refine ⟨1,Ev.step (f := fun _ => some 1) (fun k => ?_) (Ev.now _),?_,?_⟩
    ·rw [b_cmp.l0,if_pos zO,if_pos zO,if_pos zO,if_pos zO,zYe,zYe,if_neg (by rw [ha,hb'];omega),if_neg (by rw [ha,hb'];omega)]
    ·have : P * (b + 1) ≤ P * a := Nat.mul_le_mul_left _ hlt';rw [Nat.mul_succ] at this;omega
    ·have : P * (b + 1) ≤ P * a := Nat.mul_le_mul_left _ hlt';rw [Nat.mul_succ] at this;omega
theorem zJu (x y : Nat) (hx : (toB x).length ≤ 1048576) (hy : (toB y).length ≤ 1048576) : ∃ c : Int,Ev (fun k => b_cmp.f k (toB x) (toB y)) c ∧ (c < 0 ↔ x < y) ∧ (c = 0 ↔ x = y) := by
 by_cases h : (toB x).length = (toB y).length
 ·obtain ⟨c,hc,c1,c2⟩ := zBB (toB x) (toB y) (zXJ x) (zXJ y) h hx (toB x).length (Nat.le_refl _);rw [List.take_length,h,List.take_length,zYi,zYi] at c1 c2;refine ⟨c,Ev.congr (fun k => ?_) hc,c1,c2⟩;unfold b_cmp.f;rw [if_pos (by rw [h]),wrapB _ zO zO]
 ·refine ⟨((toB x).length : Int) - ((toB y).length : Int),Ev.congr (f := fun _ => some (((toB x).length : Int) - ((toB y).length : Int))) (fun k => ?_) (Ev.now _),?_,?_⟩
  ·unfold b_cmp.f;rw [if_neg zO,wrapB _ zO zO]
  ·constructor
   ·intro hc;exact zKN zO
   ·intro hxy;have := zBt (Nat.le_of_lt hxy);omega
  ·constructor
   ·intro hc;omega
   ·intro hxy;rw [hxy] at h;exact absurd rfl h
theorem zWL {x : Nat} (h : x ≠ 0) : ∀ q,toB (x * 4294967296 ^ q) = List.replicate q 0 ++ toB x
 | 0 => by rw [Nat.pow_zero,Nat.mul_one];rfl
 | q + 1 => by
  have h1 : x * 4294967296 ^ q ≠ 0 := Nat.mul_ne_zero h (Nat.ne_of_gt (zGY q));(have h2 : x * 4294967296 ^ (q + 1) = x * 4294967296 ^ q * 4294967296 := by rw [Nat.pow_succ,Nat.mul_assoc]);rw [h2,zZw (Nat.mul_ne_zero h1 (by decide)),Nat.mul_mod_left,Nat.mul_div_cancel _ (by decide),zWL h q]
  rfl
theorem zHF (n : Nat) (h : n < 32) : shl .u32 1 (n : Int) = ((2 ^ n : Nat) : Int) := by
 unfold shl;rw [Int.toNat_natCast,show IntKind.u32.bits = 32 from rfl,Nat.min_eq_left (Nat.le_of_lt h),Int.one_mul];have : (2 : Nat) ^ n < 2 ^ 32 := Nat.pow_lt_pow_right (by decide) h;(have e : ((2 : Int) ^ n) = ((2 ^ n : Nat) : Int) := by push_cast;rfl);rw [e];generalize (2 : Nat) ^ n = z at this;unfold IntKind.wrap;simp [IntKind.bits,IntKind.signed];omega
theorem up_ev (x n : Nat) (h : x ≠ 0 ∨ n < 32) (hl : (toB x).length + n / 32 ≤ 1048000) : Ev (fun k => b_up.f k (toB x) (n : Int)) (toB (x * 2 ^ n)) := by
 (have hq : Int.tdiv (n : Int) 32 = ((n / 32 : Nat) : Int) := by rw [Int.tdiv_eq_ediv_of_nonneg zO];omega);(have hr : Int.tmod (n : Int) 32 = ((n % 32 : Nat) : Int) := by rw [Int.tmod_eq_emod_of_nonneg zO];omega);have hlt : 2 ^ (n % 32) < 4294967296 := Nat.lt_of_lt_of_le (Nat.pow_lt_pow_right (by decide) (Nat.mod_lt n (by decide : 0 < 32))) (Nat.le_refl _);have ht := zZP x (2 ^ (n % 32)) 0 hlt (by decide) zO;rw [Nat.add_zero] at ht
 have hx2 : x * 2 ^ n = x * 2 ^ (n % 32) * 4294967296 ^ (n / 32) := by
  rw [zZt,Nat.mul_assoc,← Nat.pow_add]
  congr 2
  omega
 have hlen2 : (toB (x * 2 ^ (n % 32))).length ≤ (toB x).length + 1 := by
  refine zKo _ _ ?_
  have h1 : x < 4294967296 ^ (toB x).length := by
   have := zBd (zXJ x)
   rwa [zYi] at this
  rw [Nat.pow_succ];exact Nat.mul_lt_mul_of_lt_of_lt h1 hlt
 have hres : toB (x * 2 ^ n) = List.replicate (n / 32) 0 ++ toB (x * 2 ^ (n % 32)) := by
  rw [hx2];by_cases h0 : x = 0
  ·subst h0;(have : n / 32 = 0 := by omega);rw [this,Nat.zero_mul,Nat.zero_mul,zXT]
   rfl
  ·exact zWL (Nat.mul_ne_zero h0 (Nat.ne_of_gt (Nat.two_pow_pos _))) _
 rw [hres];have hb : Ev (fun k => (b_times.f k (toB x) ((2 ^ (n % 32) : Nat) : Int) 0).bind fun t => some (List.replicate (n / 32) 0 ++ t)) (List.replicate (n / 32) 0 ++ toB (x * 2 ^ (n % 32))) := Ev.bind ht (Ev.now _);refine Ev.congr (fun k => ?_) hb;unfold b_up.f
 rw [hq,hr,wrapB ((n / 32 : Nat) : Int) zO zO,wrapB (((n / 32 : Nat) : Int) + ((toB x).length : Int)) zO zO,wrapB _ zO zO,if_pos zO,if_pos zO,if_pos zO,Option.bind_some,Int.toNat_natCast,if_pos (by rw [List.length_replicate];omega),Option.bind_some,if_pos (by rw [List.length_append,List.length_replicate];omega),if_pos zO,zHF _ (Nat.mod_lt _ (by decide)),
  List.drop_left' (List.length_replicate ..),List.take_left' (List.length_replicate ..)]
 cases hk : b_times.f k (toB x) ((2 ^ (n % 32) : Nat) : Int) 0 with
 | none => rfl
 | some t =>
  rw [Option.bind_some,Option.bind_some]
  have hk2 : t = toB (x * 2 ^ (n % 32)) := by
   obtain ⟨K,hK⟩ := ht;have h1 := hK (max K k) (Nat.le_max_left ..)
   have h2 : b_times.f (max K k) (toB x) ((2 ^ (n % 32) : Nat) : Int) 0 = some t := by
    have : ∀ d,b_times.f (k + d) (toB x) ((2 ^ (n % 32) : Nat) : Int) 0 = some t := by
     intro d
     induction d with
     | zero => exact hk
     | succ d ih => exact b_times.mono _ _ _ _ _ ih
    have h3 := this (max K k - k)
    rwa [show k + (max K k - k) = max K k by omega] at h3
   have h3 : b_times.f (max K k) (toB x) ((2 ^ (n % 32) : Nat) : Int) 0 = some (toB (x * 2 ^ (n % 32))) := h1;exact Option.some.inj (h2.symm.trans h3)
  unfold slices_Concat.f;rw [if_pos (by simp [List.flatten];rw [hk2];omega)];simp [List.flatten]
theorem u64_neg (z : Int) (h : -9223372036854775808 ≤ z) (h1 : z < 0) : IntKind.u64.wrap z = z + 18446744073709551616 := by
 unfold IntKind.wrap;simp [IntKind.bits,IntKind.signed];omega
theorem zZh (l : List Int) (i : Nat) (hp : Parts l) : ∃ b : Nat,b < 4294967296 ∧ valB (l.drop i) = b + 4294967296 * valB (l.drop (i + 1)) ∧ (i < l.length → rd l (i : Int) = (b : Int)) ∧ (l.length ≤ i → b = 0) := by
 by_cases h : i < l.length
 ·obtain ⟨b,hb,hb2⟩ := getD_in hp h;refine ⟨b,hb2,?_,fun _ => by rw [zYe,hb],fun h2 => by omega⟩;rw [zBe h,hb,Int.toNat_natCast]
 ·rw [List.drop_eq_nil_of_le zO,List.drop_eq_nil_of_le zO];exact ⟨0,by decide,rfl,fun h2 => absurd h2 h,fun _ => rfl⟩
theorem zKY (l m : List Int) (hp : Parts l) (hm : Parts m) (hl : l.length ≤ 1048576) (hml : m.length ≤ 1048576) : ∀ (d i : Nat) (acc : List Int) (c : Nat),i + d = l.length → acc.length = i → Parts acc → c ≤ 1 → valB (m.drop i) + c ≤ valB (l.drop i) →
  Ev (fun k => b_minus.l0 k m acc (c : Int) l (l.length : Int) (i : Int)) (toB (valB acc + 4294967296 ^ i * (valB (l.drop i) - valB (m.drop i) - c)))
 | 0,i,acc,c,hi,ha,hpa,hc,hle => by
  have hd : l.drop i = [] := List.drop_eq_nil_of_le zO;rw [hd] at hle ⊢;(have e : valB ([] : List Int) - valB (m.drop i) - c = 0 := by simp [valB]);rw [e,Nat.mul_zero,Nat.add_zero];have ht := zZX acc.length acc rfl hpa zO;have hb : Ev (fun k => (b_trim.f k acc).bind fun t => some t) (toB (valB acc)) := Ev.bind ht (Ev.now _);refine Ev.step (fun k => ?_) hb;rw [b_minus.l0,if_neg zO]
 | d + 1,i,acc,c,hi,ha,hpa,hc,hle => by
  obtain ⟨a,ha2,hL,hra,_⟩ := zZh l i hp;obtain ⟨b,hb2,hM,hrb,hb0⟩ := zZh m i hm;have hra := hra zO;obtain ⟨L,hLe⟩ : ∃ L,L = valB (l.drop (i + 1)) := ⟨_,rfl⟩;obtain ⟨M,hMe⟩ : ∃ M,M = valB (m.drop (i + 1)) := ⟨_,rfl⟩;rw [hL,hM,← hLe,← hMe] at hle ⊢
  obtain ⟨e,c',he,hc',hwe,hwc⟩ : ∃ e c' : Nat,(e + b + c = a + 4294967296 * c' ∧ e < 4294967296) ∧ c' ≤ 1 ∧ (IntKind.u64.wrap ((a : Int) - ((c : Int) + (b : Int)))) % 4294967296 = (e : Int) ∧ (IntKind.u64.wrap ((a : Int) - ((c : Int) + (b : Int)))) / 9223372036854775808 = (c' : Int) := by
   by_cases h : b + c ≤ a
   ·refine ⟨a - b - c,0,⟨by omega,by omega⟩,by omega,?_,?_⟩
    ·rw [show ((a : Int) - ((c : Int) + (b : Int))) = ((a - b - c : Nat) : Int) by omega,u64_in _ zO];omega
    ·rw [show ((a : Int) - ((c : Int) + (b : Int))) = ((a - b - c : Nat) : Int) by omega,u64_in _ zO];omega
   ·refine ⟨a + 4294967296 - b - c,1,⟨by omega,by omega⟩,by omega,?_,?_⟩
    ·rw [u64_neg _ zO zO];omega
    ·rw [u64_neg _ zO zO];omega
  (have hle2 : M + c' ≤ L := by omega);have ih := zKY l m hp hm hl hml d (i + 1) (acc ++ [(e : Int)]) c' zO (by rw [List.length_append,List.length_singleton];omega) (zYf hpa (fun y hy => by rw [List.mem_singleton.1 hy];omega)) hc' (by rw [← hLe,← hMe];exact hle2);rw [← hLe,← hMe] at ih
  have hv : valB acc + 4294967296 ^ i * (a + 4294967296 * L - (b + 4294967296 * M) - c) = valB (acc ++ [(e : Int)]) + 4294967296 ^ (i + 1) * (L - M - c') := by
   rw [val_append,ha,Nat.pow_succ,Nat.mul_assoc,Nat.add_assoc,← Nat.mul_add];simp only [valB,Nat.mul_zero,Nat.add_zero,Int.toNat_natCast]
   congr 2
   omega
  rw [hv];refine Ev.step (fun k => ?_) ih;by_cases hi2 : i < m.length
  ·have hrb := hrb hi2;rw [b_minus.l0,if_pos zO,if_pos zO,if_pos zO,if_pos zO,if_pos zO,hra,hrb,u64_in a zO,u64_in b zO,show ((c : Int) + (b : Int)) = ((c + b : Nat) : Int) by push_cast;rfl,u64_in (c + b) zO,show ((c + b : Nat) : Int) = ((c : Int) + (b : Int)) by push_cast;rfl,hwe,hwc,wrapB _ zO zO]
   rfl
  ·have hb0 := hb0 zO;subst hb0;rw [show ((c : Int) + ((0 : Nat) : Int)) = (c : Int) by omega] at hwe hwc;rw [b_minus.l0,if_pos zO,if_pos zO,if_pos zO,if_neg zO,if_pos zO,hra,u64_in a zO,hwe,hwc,wrapB _ zO zO]
   rfl
theorem zGG (x y : Nat) (h : y ≤ x) (hl : (toB x).length ≤ 1048576) : Ev (fun k => b_minus.f k (toB x) (toB y)) (toB (x - y)) := by
 have hy := zBt h;have g := zKY (toB x) (toB y) (zXJ x) (zXJ y) hl zO (toB x).length 0 [] 0 zO rfl (fun y hy => by cases hy) zO (by rw [List.drop_zero,List.drop_zero,zYi,zYi];omega);rw [List.drop_zero,List.drop_zero,zYi,zYi,Nat.pow_zero,Nat.one_mul] at g;(have e : valB [] + (x - y - 0) = x - y := by simp [valB]);rw [e] at g;refine Ev.congr (fun k => ?_) g;unfold b_minus.f;rw [if_pos zO,if_pos zO]
 rfl
theorem zJh (l m : List Int) (hp : Parts l) (hm : Parts m) (hl : l.length ≤ 1048576) (hml : m.length ≤ l.length) : ∀ (d i : Nat) (acc : List Int) (c : Nat),i + d = l.length → acc.length = i → Parts acc → c ≤ 1 →
  Ev (fun k => b_plus.l0 k m acc (c : Int) l (l.length : Int) (i : Int)) (toB (valB acc + 4294967296 ^ i * (valB (l.drop i) + valB (m.drop i) + c)))
 | 0,i,acc,c,hi,ha,hpa,hc => by
  have hd : l.drop i = [] := List.drop_eq_nil_of_le zO;have hd2 : m.drop i = [] := List.drop_eq_nil_of_le zO
  have hv : valB acc + 4294967296 ^ i * (valB (l.drop i) + valB (m.drop i) + c) = valB (acc ++ [(c : Int) % 4294967296]) := by
   rw [hd,hd2,val_append,ha];simp only [valB,Nat.zero_add,Nat.mul_zero,Nat.add_zero]
   congr 2
   omega
  rw [hv];have ht := zZX (acc ++ [(c : Int) % 4294967296]).length (acc ++ [(c : Int) % 4294967296]) rfl (zYf hpa (fun x hx => by rw [List.mem_singleton.1 hx];omega)) (by rw [List.length_append,List.length_singleton];omega);have hb : Ev (fun k => (b_trim.f k (acc ++ [(c : Int) % 4294967296])).bind fun t => some t) (toB (valB (acc ++ [(c : Int) % 4294967296]))) := Ev.bind ht (Ev.now _);refine Ev.step (fun k => ?_) hb;rw [b_plus.l0,if_neg zO,if_pos zO]
 | d + 1,i,acc,c,hi,ha,hpa,hc => by
  obtain ⟨a,ha2,hL,hra,_⟩ := zZh l i hp;obtain ⟨b,hb2,hM,hrb,hb0⟩ := zZh m i hm;have hra := hra zO;have ih := zJh l m hp hm hl hml d (i + 1) (acc ++ [(((c + a + b) % 4294967296 : Nat) : Int)]) ((c + a + b) / 4294967296) zO (by rw [List.length_append,List.length_singleton];omega) (zYf hpa (fun y hy => by rw [List.mem_singleton.1 hy];omega)) zO
  have hv : valB acc + 4294967296 ^ i * (valB (l.drop i) + valB (m.drop i) + c) = valB (acc ++ [(((c + a + b) % 4294967296 : Nat) : Int)]) + 4294967296 ^ (i + 1) * (valB (l.drop (i + 1)) + valB (m.drop (i + 1)) + (c + a + b) / 4294967296) := by
   rw [val_append,ha,hL,hM,Nat.pow_succ,Nat.mul_assoc,Nat.add_assoc (valB acc),← Nat.mul_add];simp only [valB,Nat.mul_zero,Nat.add_zero,Int.toNat_natCast]
   congr 2
   omega
  rw [hv];refine Ev.step (fun k => ?_) ih;by_cases hi2 : i < m.length
  ·have hrb := hrb hi2;rw [b_plus.l0,if_pos zO,if_pos zO,if_pos zO,if_pos zO,if_pos zO,hra,hrb,u64_in a zO,u64_in b zO,show ((c : Int) + (a : Int)) = ((c + a : Nat) : Int) by push_cast;rfl,u64_in (c + a) zO,show (((c + a : Nat) : Int) + (b : Int)) = ((c + a + b : Nat) : Int) by push_cast;rfl,u64_in (c + a + b) zO,wrapB _ zO zO];simp only [Int.natCast_emod,Int.natCast_ediv,Int.natCast_add,Int.natCast_one]
   rfl
  ·have hb0 := hb0 zO;subst hb0;rw [Nat.add_zero];rw [b_plus.l0,if_pos zO,if_pos zO,if_pos zO,if_neg zO,if_pos zO,hra,u64_in a zO,show ((c : Int) + (a : Int)) = ((c + a : Nat) : Int) by push_cast;rfl,u64_in (c + a) zO,wrapB _ zO zO];simp only [Int.natCast_emod,Int.natCast_ediv,Int.natCast_add,Int.natCast_one]
   rfl
theorem zHj (x y : Nat) (h : (toB y).length ≤ (toB x).length) (hl : (toB x).length ≤ 1048576) : Ev (fun k => b_plus.fg k (toB x) (toB y)) (toB (x + y)) := by
 have g := zJh (toB x) (toB y) (zXJ x) (zXJ y) hl h (toB x).length 0 [] 0 zO rfl (fun y hy => by cases hy) zO;rw [List.drop_zero,List.drop_zero,zYi,zYi,Nat.pow_zero,Nat.one_mul] at g;(have e : valB [] + (x + y + 0) = x + y := by simp [valB]);rw [e] at g;refine Ev.congr (fun k => ?_) g;unfold b_plus.fg;rw [wrapB _ zO zO,if_pos zO,if_pos zO]
 rfl
theorem zHJ (x y : Nat) (hx : (toB x).length ≤ 1048576) (hy : (toB y).length ≤ 1048576) : Ev (fun k => b_plus.f k (toB x) (toB y)) (toB (x + y)) := by
 unfold b_plus.f;by_cases h : ((toB x).length : Int) < ((toB y).length : Int)
 ·simp only [if_pos h];rw [Nat.add_comm];exact zHj y x zO hy
 ·simp only [if_neg h];exact zHj x y zO hx
theorem zYS (a b : Nat) (ha : a < 18446744073709551616) (hb : b < 18446744073709551616) : Go.bits .or .u64 (a : Int) (b : Int) = ((a ||| b : Nat) : Int) := by
 (have hlt : a ||| b < 2 ^ 64 := Nat.or_lt_two_pow ha hb);unfold Go.bits;rw [show IntKind.u64.bits = 64 from rfl];simp only [BitVec.toNat_or];(have e2 : (BitVec.ofInt 64 (a : Int)).toNat = a := by rw [BitVec.ofInt_natCast,BitVec.toNat_ofNat,Nat.mod_eq_of_lt ha]);(have e3 : (BitVec.ofInt 64 (b : Int)).toNat = b := by rw [BitVec.ofInt_natCast,BitVec.toNat_ofNat,Nat.mod_eq_of_lt hb]);rw [e2,e3];exact u64_in _ hlt
theorem zYY (a b : Nat) (ha : a < 18446744073709551616) (hb : b < 18446744073709551616) : Go.bits .and .u64 (a : Int) (b : Int) = ((a &&& b : Nat) : Int) := by
 have hlt : a &&& b < 2 ^ 64 := Nat.and_lt_two_pow _ hb;unfold Go.bits;rw [show IntKind.u64.bits = 64 from rfl];simp only [BitVec.toNat_and];(have e2 : (BitVec.ofInt 64 (a : Int)).toNat = a := by rw [BitVec.ofInt_natCast,BitVec.toNat_ofNat,Nat.mod_eq_of_lt ha]);(have e3 : (BitVec.ofInt 64 (b : Int)).toNat = b := by rw [BitVec.ofInt_natCast,BitVec.toNat_ofNat,Nat.mod_eq_of_lt hb]);rw [e2,e3];exact u64_in _ hlt
theorem zJH (x n : Nat) (h : n ≤ 64) : shl .u64 (x : Int) (n : Int) = ((x * 2 ^ n % 2 ^ 64 : Nat) : Int) := by
 unfold shl;rw [Int.toNat_natCast,show IntKind.u64.bits = 64 from rfl,Nat.min_eq_left h];(have e : ((x : Int) * (2 : Int) ^ n) = ((x * 2 ^ n : Nat) : Int) := by push_cast;rfl);rw [e];generalize x * 2 ^ n = z;unfold IntKind.wrap;simp [IntKind.bits,IntKind.signed]
theorem zHE (x n : Nat) (h : n ≤ 64) : shr .u64 (x : Int) (n : Int) = ((x / 2 ^ n : Nat) : Int) := by
 unfold shr;rw [Int.toNat_natCast,show IntKind.u64.bits = 64 from rfl,Nat.min_eq_left h]
 push_cast
 rfl
theorem or_bit (t i : Nat) : (2 ^ (i + 1) * t ||| 2 ^ i) = 2 ^ (i + 1) * t + 2 ^ i := by
 rw [Nat.two_pow_add_eq_or_of_lt (by rw [Nat.pow_succ];have := Nat.two_pow_pos i;omega)]
end Go.Proofs.YtongfmeediokmaaGreatDoor.Pure
end
section
namespace Go.Proofs.YtongfmeediokmaaGreatDoor.Flo
open Go Ieee
def mid (w : Nat) : Nat := units w + units (w + 1)
def kE : Nat := 1075
def K : Nat := 2 ^ kE
def Above (A B w : Nat) : Prop := w = 0 ∨ mid (w - 1) * B < A * K ∨ (mid (w - 1) * B = A * K ∧ w % 2 = 0)
def Under (A B w : Nat) : Prop := A * K < mid w * B ∨ (A * K = mid w * B ∧ w % 2 = 0)
def zXH (A B w : Nat) : Prop := Above A B w ∧ Under A B w
theorem zYT (w : Nat) : units w < units (w + 1) := zXQ (Nat.lt_succ_self w)
theorem zWs {v w : Nat} (h : v < w) : mid v < mid w := by
 unfold mid;have h1 := zXQ h;have h2 : units (v + 1) < units (w + 1) := zXQ zO;omega
theorem zKX {A B A' B' v w : Nat} (hB : 0 < B) (hB' : 0 < B') (h : A * B' ≤ A' * B) (hv : zXH A B v) (hw : zXH A' B' w) : v ≤ w := by
 apply Nat.le_of_not_lt;intro hlt
 have hm : mid w ≤ mid (v - 1) := by
  rcases Nat.lt_or_eq_of_le (show w ≤ v - 1 by omega) with h1 | h1
  ·exact Nat.le_of_lt (zWs h1)
  ·rw [h1];exact Nat.le_refl _
 have ha : mid (v - 1) * B ≤ A * K ∧ (mid (v - 1) * B = A * K → v % 2 = 0) := by
  rcases hv.1 with h1 | h1 | h1
  ·omega
  ·exact ⟨Nat.le_of_lt h1,fun e => by omega⟩
  ·exact ⟨Nat.le_of_eq h1.1,fun _ => h1.2⟩
 have hu : A' * K ≤ mid w * B' ∧ (A' * K = mid w * B' → w % 2 = 0) := by
  rcases hw.2 with h1 | h1
  ·exact ⟨Nat.le_of_lt h1,fun e => by omega⟩
  ·exact ⟨Nat.le_of_eq h1.1,fun _ => h1.2⟩
 have c1 : mid (v - 1) * B * B' ≤ A * K * B' := Nat.mul_le_mul_right _ ha.1
 have c2 : A * K * B' ≤ A' * K * B := by
  have := Nat.mul_le_mul_right K h;rw [Nat.mul_right_comm A K B',Nat.mul_right_comm A' K B];exact this
 have c3 : A' * K * B ≤ mid w * B' * B := Nat.mul_le_mul_right _ hu.1;have c4 : mid w * B' * B ≤ mid (v - 1) * B' * B := Nat.mul_le_mul_right _ (Nat.mul_le_mul_right _ hm)
 have c5 : mid (v - 1) * B' * B = mid (v - 1) * B * B' := Nat.mul_right_comm _ _ _
 (have e1 : mid (v - 1) * B * B' = A * K * B' := by omega);(have e2 : A' * K * B = mid w * B' * B := by omega);(have e3 : mid w * B' * B = mid (v - 1) * B' * B := by omega);have f1 : mid (v - 1) * B = A * K := Nat.eq_of_mul_eq_mul_right hB' e1;have f2 : A' * K = mid w * B' := Nat.eq_of_mul_eq_mul_right hB e2;have f3 : mid w = mid (v - 1) := Nat.eq_of_mul_eq_mul_right hB' (Nat.eq_of_mul_eq_mul_right hB e3);have g1 := ha.2 f1;have g2 := hu.2 f2
 have : w = v - 1 := by
  rcases Nat.lt_trichotomy w (v - 1) with k | k | k
  ·have := zWs k;omega
  ·exact k
  ·have := zWs k;omega
 omega
theorem zJR {A B A' B' v w : Nat} (hB : 0 < B) (hB' : 0 < B') (h : A * B' = A' * B) (hv : zXH A B v) (hw : zXH A' B' w) : v = w :=
 Nat.le_antisymm (zKX hB hB' (Nat.le_of_eq h) hv hw) (zKX hB' hB (Nat.le_of_eq h.symm) hw hv)
theorem zGz (c j : Nat) : (c + 0) * 2 ^ (j + 1) = (c * 2) * 2 ^ j := by rw [Nat.add_zero,Nat.pow_succ,Nat.mul_comm (2 ^ j) 2,Nat.mul_assoc]
theorem zZV {r : Nat} (h : r < 4503599627370496) : units r = r := by unfold units;rw [if_pos h]
theorem zBH {r : Nat} (h : ¬ r < 4503599627370496) : units r = (4503599627370496 + r % 4503599627370496) * 2 ^ (r / 4503599627370496 - 1) := by unfold units;rw [if_neg h]
theorem zXy (j q : Nat) (h1 : q ≤ 9007199254740992) (h2 : j = 0 ∨ 4503599627370496 ≤ q) : units (j * 4503599627370496 + q) = q * 2 ^ j := by
 by_cases hq : q < 4503599627370496
 ·(obtain rfl : j = 0 := by omega);rw [zZV zO];omega
 ·rw [zBH zO];by_cases he : q = 9007199254740992
  ·(have e1 : (j * 4503599627370496 + q) % 4503599627370496 = 0 := by omega);(have e2 : (j * 4503599627370496 + q) / 4503599627370496 - 1 = j + 1 := by omega);(have e3 : 4503599627370496 * 2 = q := by omega);rw [e1,e2,zGz,e3]
  ·(have e1 : 4503599627370496 + (j * 4503599627370496 + q) % 4503599627370496 = q := by omega);(have e2 : (j * 4503599627370496 + q) / 4503599627370496 - 1 = j := by omega);rw [e1,e2]
theorem zBS {A B j q : Nat} (hB : 0 < B) (h1 : q < 9007199254740992) (h2 : j = 0 ∨ 4503599627370496 ≤ q) (lo : 2 * q * (2 ^ j * B) ≤ A * K) (hi : A * K < 2 * (q + 1) * (2 ^ j * B)) :
  zXH A B (j * 4503599627370496 + if (2 * q + 1) * (2 ^ j * B) < A * K ∨ ((2 * q + 1) * (2 ^ j * B) = A * K ∧ q % 2 = 1) then q + 1 else q) := by
 have u0 := zXy j q zO h2;have u1 := zXy j (q + 1) zO zO
 have hmid : mid (j * 4503599627370496 + q) * B = (2 * q + 1) * (2 ^ j * B) := by
  unfold mid;rw [Nat.add_assoc,u0,u1,← Nat.add_mul,← Nat.mul_assoc]
  congr 2
  omega
 have hK : ∃ a,a = A * K := ⟨_,rfl⟩;obtain ⟨a,ha⟩ := hK;obtain ⟨c,hc⟩ : ∃ c,c = 2 ^ j * B := ⟨_,rfl⟩;rw [← ha,← hc] at lo hi;rw [← hc] at hmid;rw [← ha,← hc];(have q0 : units (j * 4503599627370496 + q) * B = q * c := by rw [u0,hc,Nat.mul_assoc]);(have q1 : units (j * 4503599627370496 + (q + 1)) * B = (q + 1) * c := by rw [u1,hc,Nat.mul_assoc]);by_cases hup : (2 * q + 1) * c < a ∨ ((2 * q + 1) * c = a ∧ q % 2 = 1)
 ·rw [if_pos hup];(have hw : j * 4503599627370496 + (q + 1) - 1 = j * 4503599627370496 + q := by omega);refine ⟨.inr ?_,.inl ?_⟩
  ·rw [hw,hmid,← ha];rcases hup with g | g
   ·exact .inl g
   ·exact .inr ⟨g.1,by omega⟩
  ·rw [← ha]
   refine Nat.lt_of_lt_of_le hi ?_
   unfold mid;have h3 := zYT (j * 4503599627370496 + (q + 1));have h4 : units (j * 4503599627370496 + (q + 1)) * B ≤ units (j * 4503599627370496 + (q + 1) + 1) * B := Nat.mul_le_mul_right _ (Nat.le_of_lt h3);rw [Nat.add_mul,q1];rw [q1] at h4;(have h5 : 2 * (q + 1) * c = (q + 1) * c + (q + 1) * c := by rw [Nat.mul_assoc,Nat.two_mul]);omega
 ·rw [if_neg hup];(have g1 : a ≤ (2 * q + 1) * c := Nat.le_of_not_lt fun g => hup (.inl g));refine ⟨?_,?_⟩
  ·by_cases h0 : j * 4503599627370496 + q = 0
   ·exact .inl h0
   ·refine .inr (.inl ?_);rw [← ha];refine Nat.lt_of_lt_of_le ?_ lo;unfold mid;have h3 := zYT (j * 4503599627370496 + q - 1);rw [show j * 4503599627370496 + q - 1 + 1 = j * 4503599627370496 + q by omega] at h3 ⊢;have h4 : units (j * 4503599627370496 + q - 1) * B < units (j * 4503599627370496 + q) * B := Nat.mul_lt_mul_of_pos_right h3 hB;rw [Nat.add_mul,q0];rw [q0] at h4;(have h5 : 2 * q * c = q * c + q * c := by rw [Nat.mul_assoc,Nat.two_mul]);omega
  ·unfold Under;rw [← ha,hmid];rcases Nat.lt_or_eq_of_le g1 with g | g
   ·exact .inl g
   ·refine .inr ⟨g,?_⟩;(have : ¬ q % 2 = 1 := fun k => hup (.inr ⟨g.symm,k⟩));omega
theorem K_exp : ∃ E : Nat,E = 1075 ∧ K = 2 ^ E := ⟨kE,rfl,rfl⟩
theorem K_pos : 0 < K := by
 obtain ⟨E,_,h⟩ := K_exp;rw [h];exact Nat.two_pow_pos E
theorem zJV {A B P M Q R n j : Nat} (hB : 0 < B) (hP : 0 < P) (hM : 0 < M) (hn : 1 ≤ n) (hK : K * (M * 2 ^ n) = 2 ^ (j + 1) * P)
  (hA : A * P = Q * (B * M) + R) (hR : R < B * M) (h1 : Q / 2 ^ n < 9007199254740992) (h2 : j = 0 ∨ 4503599627370496 ≤ Q / 2 ^ n) :
  zXH A B (j * 4503599627370496 + if 2 ^ (n - 1) < Q % 2 ^ n ∨ (Q % 2 ^ n = 2 ^ (n - 1) ∧ (0 < R ∨ Q / 2 ^ n % 2 = 1)) then Q / 2 ^ n + 1 else Q / 2 ^ n) := by
 obtain ⟨m,rfl⟩ : ∃ m,n = m + 1 := ⟨n - 1,by omega⟩;rw [Nat.add_sub_cancel];have hT : 0 < 2 ^ m := Nat.two_pow_pos m;(have hS : (2 : Nat) ^ (m + 1) = 2 * 2 ^ m := by rw [Nat.pow_succ,Nat.mul_comm]);rw [hS] at hK h1 h2 ⊢;obtain ⟨T,hTT⟩ : ∃ T,T = 2 ^ m := ⟨_,rfl⟩;rw [← hTT] at hK h1 h2 hT ⊢;obtain ⟨C,hC⟩ : ∃ C,C = B * M := ⟨_,rfl⟩;(have hC0 : 0 < C := by rw [hC];exact Nat.mul_pos hB hM);rw [← hC] at hA hR;have hQ := Nat.div_add_mod Q (2 * T);have hr : Q % (2 * T) < 2 * T := Nat.mod_lt _ zO;obtain ⟨q,hq⟩ : ∃ q,q = Q / (2 * T) := ⟨_,rfl⟩;obtain ⟨r,hrr⟩ : ∃ r,r = Q % (2 * T) := ⟨_,rfl⟩;rw [← hq] at h1 h2;rw [← hq,← hrr] at hQ ⊢;rw [← hrr] at hr
 have key : ∀ c,c * (2 ^ j * B) * P = c * T * C * K := by
  intro c
  have e1 : 2 * (c * (2 ^ j * B) * P) = 2 * (c * T * C * K) := by
   have g1 : 2 * (c * (2 ^ j * B) * P) = c * B * (2 ^ (j + 1) * P) := by
    rw [Nat.pow_succ];simp only [Nat.mul_assoc,Nat.mul_comm,Nat.mul_left_comm]
   rw [g1,← hK,hC];simp only [Nat.mul_assoc,Nat.mul_comm,Nat.mul_left_comm]
  omega
 have keyA : A * K * P = (Q * C + R) * K := by rw [← hA];simp only [Nat.mul_assoc,Nat.mul_comm,Nat.mul_left_comm]
 have hlt : ∀ c,c * (2 ^ j * B) < A * K ↔ c * T * C < Q * C + R := by
  intro c;rw [← Nat.mul_lt_mul_right hP,key,keyA,Nat.mul_lt_mul_right K_pos]
 have hgt : ∀ c,A * K < c * (2 ^ j * B) ↔ Q * C + R < c * T * C := by
  intro c;rw [← Nat.mul_lt_mul_right hP,key,keyA,Nat.mul_lt_mul_right K_pos]
 have heq : ∀ c,c * (2 ^ j * B) = A * K ↔ c * T * C = Q * C + R := by
  intro c;have a := hlt c;have b := hgt c;omega
 have hle : ∀ c,c * (2 ^ j * B) ≤ A * K ↔ c * T * C ≤ Q * C + R := by
  intro c;have b := hgt c;omega
 have cQ : ∀ x,x ≤ Q → x * C ≤ Q * C + R := fun x h => Nat.le_trans (Nat.mul_le_mul_right C h) (Nat.le_add_right _ _)
 have cG : ∀ x,Q < x → Q * C + R < x * C := fun x h => by
  have := Nat.mul_le_mul_right C (show Q + 1 ≤ x from h);rw [Nat.add_mul,Nat.one_mul] at this;omega
 (have e2 : 2 * q * T + r = Q := by rw [Nat.mul_assoc,Nat.mul_comm q T,← Nat.mul_assoc];exact hQ);(have e3 : 2 * (q + 1) * T = 2 * q * T + 2 * T := by rw [Nat.mul_add,Nat.add_mul]);(have e4 : (2 * q + 1) * T = 2 * q * T + T := by rw [Nat.add_mul,Nat.one_mul]);(have g2 : 2 * q * T ≤ Q := by clear hlt hgt heq hle key keyA hA hK;omega);(have g3 : Q < 2 * (q + 1) * T := by clear hlt hgt heq hle key keyA hA hK;omega);have hmain := zBS (A := A) (B := B) (j := j) (q := q) hB h1 h2 ((hle _).2 (cQ _ g2)) ((hgt _).2 (cG _ g3))
 have hcond : ((2 * q + 1) * (2 ^ j * B) < A * K ∨ ((2 * q + 1) * (2 ^ j * B) = A * K ∧ q % 2 = 1)) ↔ (T < r ∨ (r = T ∧ (0 < R ∨ q % 2 = 1))) := by
  rw [hlt,heq];rcases Nat.lt_trichotomy T r with h | h | h
  ·have := Nat.mul_le_mul_right C (show (2 * q + 1) * T + 1 ≤ Q by omega);rw [Nat.add_mul _ 1,Nat.one_mul] at this;exact ⟨fun _ => .inl h,fun _ => .inl zO⟩
  ·(have : (2 * q + 1) * T = Q := by omega);rw [this];omega
  ·have := cG ((2 * q + 1) * T) zO;omega
 simp only [hcond] at hmain;exact hmain
theorem zWG {A B : Nat} (h : A * K < B) : zXH A B 0 := by
 refine ⟨.inl rfl,.inl ?_⟩;(have : mid 0 = 1 := by rfl);rw [this,Nat.one_mul];exact h
def INF : Nat := 9218868437227405312
def upN (D : Nat) (e : Int) : Nat := D * 10 ^ e.toNat
def loN (e : Int) : Nat := 10 ^ (-e).toNat
def zBE (D : Nat) (e : Int) (w : Nat) : Prop :=
 if D = 0 ∨ e < -1000 then w = 0 else if 400 < e then w = INF else ∃ v,zXH (upN D e) (loN e) v ∧ w = min v INF
theorem zYQ (e : Int) : 0 < loN e := Nat.pow_pos (by decide)
end Go.Proofs.YtongfmeediokmaaGreatDoor.Flo
end
section
namespace Go.Proofs.YtongfmeediokmaaGreatDoor.Pure
open Go.RowKit YtongfmeediokmaaGreatDoor.Pr YtongfmeediokmaaGreatDoorW.PrintWords YtongfmeediokmaaGreatDoorW.PrintLast YtongfmeediokmaaGreatDoorW.PrintMore YtongfmeediokmaaGreatDoor.Flo
def rnd (q n : Nat) : Nat := if 2 ^ (n - 1) < q % 2 ^ n ∨ (q % 2 ^ n = 2 ^ (n - 1) ∧ q / 2 ^ n % 2 = 1) then q / 2 ^ n + 1 else q / 2 ^ n
theorem zHM (a b : Nat) (h : b < 4503599627370496) (ha : a < 4096) : Go.bits .or .u64 ((a * 4503599627370496 : Nat) : Int) (b : Int) = ((a * 4503599627370496 + b : Nat) : Int) := by
 rw [zYS _ _ zO zO];have := Nat.two_pow_add_eq_or_of_lt (i := 52) h a;rw [Nat.mul_comm a,show (4503599627370496 : Nat) = 2 ^ 52 from rfl,this]
theorem zJk (a : Nat) (h : a < 18446744073709551616) : Go.bits .or .u64 0 (a : Int) = (a : Int) := by
 have := zYS 0 a (by decide) h;rw [Nat.zero_or] at this;exact this
theorem zZu (a : Nat) (h : a < 18446744073709551616) : Go.bits .and .u64 (a : Int) 4503599627370495 = ((a % 4503599627370496 : Nat) : Int) := by
 have := zYY a 4503599627370495 h (by decide);rw [show (4503599627370495 : Nat) = 2 ^ 52 - 1 from rfl,Nat.and_two_pow_sub_one_eq_mod] at this;exact this
def stick (Q R : Nat) : Nat := if 0 < R then Q ||| 1 else Q
theorem zXK {x m : Nat} (h : x < 2 ^ m) : (toB x).length ≤ m / 32 + 1 := by
 refine zKo _ _ (Nat.lt_of_lt_of_le h ?_);rw [zZt];exact Nat.pow_le_pow_right (by decide) zO
theorem zYI (n : Nat) : 10 ^ n < 2 ^ (4 * n + 1) := by
 have h1 : 10 ^ n ≤ 16 ^ n := Nat.pow_le_pow_left (by decide) n;(have h2 : (16 : Nat) ^ n = 2 ^ (4 * n) := by rw [Nat.pow_mul]);have h3 : (2 : Nat) ^ (4 * n) < 2 ^ (4 * n + 1) := Nat.pow_lt_pow_right (by decide) zO;omega
theorem zWi (x n m : Nat) (hn : n ≤ 100000) (hm : m ≤ 1000000) (h : x * 10 ^ n < 2 ^ m) : Ev (fun k => b_tens.f k (toB x) (n : Int)) (toB (x * 10 ^ n)) := by
 refine tens0 (m / 32 + 1) zO n x zO (Nat.lt_of_lt_of_le h ?_);rw [zZt];exact Nat.pow_le_pow_right (by decide) zO
theorem zGk (e : Int) (u v n j : Nat) (hj : (j : Int) = e + n + 1074) (he : e = (v : Int) - u) : K * (2 ^ v * 2 ^ n) = 2 ^ (j + 1) * 2 ^ u := by
 obtain ⟨E,hE,hKE⟩ := K_exp;rw [hKE,← Nat.pow_add,← Nat.pow_add,← Nat.pow_add,show E + (v + n) = j + 1 + u by omega]
def dval (s : ByteArray) : Nat → Nat
 | 0 => 0
 | i + 1 => dval s i * 10 + (bt s (i : Int) - 48).toNat
def zXM (s : ByteArray) : Prop := ∀ i : Nat,i < s.size → 48 ≤ bt s (i : Int) ∧ bt s (i : Int) ≤ 57
theorem zJU (s : ByteArray) (h : zXM s) : ∀ i,i ≤ s.size → dval s i < 10 ^ i
 | 0,_ => by simp [dval]
 | i + 1,hi => by
  have ih := zJU s h i zO;have := h i zO;rw [dval,Nat.pow_succ];omega
abbrev bytes (s : ByteArray) : List UInt8 := s.data.toList
theorem zXC (s : ByteArray) : (bytes s).length = s.size := Array.length_toList
theorem zZd {a b : ByteArray} (h : bytes a = bytes b) : a = b := by
 cases a;cases b
 congr 1
 exact Array.toList_inj.1 h
theorem zWB (s : ByteArray) (a b : Nat) : bytes (s.extract a b) = ((bytes s).take b).drop a := by
 unfold bytes;rw [ByteArray.data_extract,Array.toList_extract,List.extract_eq_take_drop,List.drop_take]
theorem bytes_append (a b : ByteArray) : bytes (a ++ b) = bytes a ++ bytes b := by
 unfold bytes;rw [ByteArray.data_append,Array.toList_append]
theorem zGb (s : ByteArray) (k : Nat) : bt s (k : Int) = (((bytes s)[k]?).map fun b => (b.toNat : Int)).getD 0 := by
 unfold bt;rw [Int.toNat_natCast];by_cases h : k < s.size
 ·rw [dif_pos h];unfold bytes;rw [List.getElem?_eq_getElem (by rw [zXC];exact h)]
  rfl
 ·rw [dif_neg h,List.getElem?_eq_none (by rw [zXC];omega)]
  rfl
theorem zJw (a b : ByteArray) (k : Nat) : bt (a ++ b) (k : Int) = if k < a.size then bt a (k : Int) else bt b ((k - a.size : Nat) : Int) := by
 rw [zGb,bytes_append];by_cases h : k < a.size
 ·rw [if_pos h,List.getElem?_append_left (by rw [zXC];exact h),zGb]
 ·rw [if_neg h,List.getElem?_append_right (by rw [zXC];omega),zXC,zGb]
def suf (s : ByteArray) (a : Nat) : ByteArray := s.extract a s.size
def Dg (s : ByteArray) (i : Nat) : Prop := i < s.size ∧ 48 ≤ bt s (i : Int) ∧ bt s (i : Int) ≤ 57
instance (s : ByteArray) (i : Nat) : Decidable (Dg s i) := by unfold Dg;exact inferInstance
def DE (s : ByteArray) (i j : Nat) : Prop := i ≤ j ∧ j ≤ s.size ∧ (∀ t,i ≤ t → t < j → Dg s t) ∧ ¬ Dg s j
def efold (s : ByteArray) : Nat → Nat → Nat → Nat
 | 0,a,e => e
 | n + 1,a,e => efold s n (a + 1) (min (10 * e + (bt s (a : Int) - 48).toNat) 9999)
def efrom (s : ByteArray) (a : Nat) : Nat := efold s (s.size - a) a 0
end Go.Proofs.YtongfmeediokmaaGreatDoor.Pure
end
section
namespace Go.Proofs.YtongfmeediokmaaGreatDoor.Pure
open Go.RowKit YtongfmeediokmaaGreatDoor.Pr YtongfmeediokmaaGreatDoorW.PrintWords YtongfmeediokmaaGreatDoorW.PrintLast YtongfmeediokmaaGreatDoorW.PrintMore
def toD (x : Nat) : List Int := if x = 0 then [] else ((x % 65536 : Nat) : Int) :: toD (x / 65536)
termination_by x
decreasing_by omega
theorem zXf : toD 0 = [] := by rw [toD];rfl
theorem zYa {x : Nat} (h : x ≠ 0) : toD x = ((x % 65536 : Nat) : Int) :: toD (x / 65536) := by rw [toD,if_neg h]
def valD : List Int → Nat
 | [] => 0
 | a :: l => a.toNat + 65536 * valD l
def Digs (l : List Int) : Prop := ∀ x ∈ l,0 ≤ x ∧ x < 65536
theorem zQN (x : Nat) : valD (toD x) = x := by
 induction x using Nat.strongRecOn with
 | _ x ih =>
  by_cases h : x = 0
  ·subst h;rw [zXf];rfl
  ·rw [zYa h,valD,ih (x / 65536) zO,Int.toNat_natCast];omega
theorem zQJ (x : Nat) : Digs (toD x) := by
 induction x using Nat.strongRecOn with
 | _ x ih =>
  by_cases h : x = 0
  ·subst h;rw [zXf];intro y hy;cases hy
  ·rw [zYa h];intro y hy;rcases List.mem_cons.1 hy with rfl | hy
   ·omega
   ·exact ih (x / 65536) zO y hy
theorem zXm (l m : List Int) : valD (l ++ m) = valD l + 65536 ^ l.length * valD m := by
 induction l with
 | nil => simp [valD]
 | cons a l ih =>
  rw [List.cons_append,valD,valD,ih,List.length_cons,Nat.pow_succ,Nat.mul_add,← Nat.mul_assoc,Nat.mul_comm 65536 (65536 ^ l.length)];omega
theorem zYB {l : List Int} (h : Digs l) : valD l < 65536 ^ l.length := by
 induction l with
 | nil => simp [valD]
 | cons a l ih =>
  have h1 := ih (fun x hx => h x (List.mem_cons_of_mem _ hx));have h2 := h a (List.mem_cons_self ..);rw [valD,List.length_cons,Nat.pow_succ];omega
theorem zHx {l : List Int} (h : Digs l) (hl : l = [] ∨ l.getLast? ≠ some 0) : toD (valD l) = l := by
 induction l with
 | nil => exact zXf
 | cons a l ih =>
  have h2 := h a (List.mem_cons_self ..);(have hp : Digs l := fun x hx => h x (List.mem_cons_of_mem _ hx));have hlast : (a :: l).getLast? ≠ some 0 := hl.resolve_left (by simp)
  have htl : l = [] ∨ l.getLast? ≠ some 0 := by
   by_cases hn : l = []
   ·exact .inl hn
   ·refine .inr ?_
    cases l with
    | nil => exact absurd rfl hn
    | cons b l => rwa [List.getLast?_cons_cons] at hlast
  have hne : valD (a :: l) ≠ 0 := by
   intro h0;rw [valD] at h0;by_cases hn : l = []
   ·subst hn;simp at hlast;omega
   ·have := ih hp htl;(have h3 : valD l = 0 := by omega);rw [h3,zXf] at this;exact hn this.symm
  rw [zYa hne];(have e1 : (valD (a :: l) % 65536 : Nat) = a.toNat := by rw [valD];omega);(have e2 : valD (a :: l) / 65536 = valD l := by rw [valD];omega);rw [e1,e2,ih hp htl]
  congr 1
  omega
theorem zYb {l m : List Int} (h : Digs l) (g : Digs m) : Digs (l ++ m) := fun x hx => (List.mem_append.1 hx).elim (h x) (g x)
theorem zXX {a : Int} (h : 0 ≤ a ∧ a < 65536) : Digs [a] := fun x hx => by rw [List.mem_singleton.1 hx];exact h
theorem getDD {l : List Int} (hp : Digs l) (i : Nat) : ∃ a : Nat,l.getD i 0 = (a : Int) ∧ a < 65536 ∧ (l.length ≤ i → a = 0) := by
 by_cases h : i < l.length
 ·have := hp (l.getD i 0) (by rw [List.getD_eq_getElem?_getD,List.getElem?_eq_getElem h];exact List.getElem_mem h);exact ⟨(l.getD i 0).toNat,by omega,by omega,fun h2 => by omega⟩
 ·refine ⟨0,?_,by decide,fun _ => rfl⟩;rw [List.getD_eq_getElem?_getD,List.getElem?_eq_none zO]
  rfl
theorem zYy (l : List Int) (i : Nat) (hp : Digs l) : ∃ a : Nat,l.getD i 0 = (a : Int) ∧ a < 65536 ∧ valD (l.drop i) = a + 65536 * valD (l.drop (i + 1)) ∧ (l.length ≤ i → a = 0) := by
 obtain ⟨a,h1,h2,h3⟩ := getDD hp i;refine ⟨a,h1,h2,?_,h3⟩;by_cases h : i < l.length
 ·rw [List.drop_eq_getElem_cons h,valD]
  have : l[i] = (a : Int) := by
   rw [← h1,List.getD_eq_getElem?_getD,List.getElem?_eq_getElem h]
   rfl
  rw [this,Int.toNat_natCast]
 ·rw [List.drop_eq_nil_of_le zO,List.drop_eq_nil_of_le zO,h3 zO]
  rfl
theorem zYL {l : List Int} {i : Nat} (h : i < l.length) : valD (l.take (i + 1)) = valD (l.take i) + 65536 ^ i * (l.getD i 0).toNat := by
 rw [List.take_succ_eq_append_getElem h,zXm,List.length_take,Nat.min_eq_left (Nat.le_of_lt h),List.getD_eq_getElem?_getD,List.getElem?_eq_getElem h];simp [valD]
theorem zXP {l : List Int} (hp : Digs l) (i : Nat) : valD (l.take i) < 65536 ^ i := by
 have := zYB (l := l.take i) (fun x hx => hp x (List.mem_of_mem_take hx));refine Nat.lt_of_lt_of_le this (Nat.pow_le_pow_right (by decide) ?_);rw [List.length_take];exact Nat.min_le_left ..
theorem zKR (l : List Int) (hp : Digs l) (hl : l.length ≤ 1000000) : ∀ i,i ≤ l.length → Ev (fun k => r1_Trim.l0 k l (i : Int)) (toD (valD (l.take i)))
 | 0,_ => by
  rw [List.take_zero];refine Ev.step (f := fun _ => some []) (fun k => ?_) (by rw [show valD [] = 0 from rfl,zXf];exact Ev.now _);rw [r1_Trim.l0,if_neg zO,Option.bind_some,if_pos zO,if_pos zO];simp
 | i + 1,hi => by
  obtain ⟨a,h1,h2,_⟩ := getDD hp i;(have hw : wrap64 (((i + 1 : Nat) : Int) - 1) = (i : Int) := by rw [wrapB _ zO zO];omega);by_cases h0 : a = 0
  ·have ih := zKR l hp hl i zO;(have e : valD (l.take (i + 1)) = valD (l.take i) := by rw [zYL zO,h1,h0];simp);rw [e];refine Ev.step (fun k => ?_) ih;rw [r1_Trim.l0,if_pos zO,hw,if_pos zO,if_pos zO,zYe,if_pos zO]
  ·have e : toD (valD (l.take (i + 1))) = l.take (i + 1) := by
    refine zHx (fun x hx => hp x (List.mem_of_mem_take hx)) (.inr ?_);rw [List.take_succ_eq_append_getElem zO,List.getLast?_append]
    have : l[i]'zO = (a : Int) := by
     rw [← h1,List.getD_eq_getElem?_getD,List.getElem?_eq_getElem zO]
     rfl
    rw [this];simp;omega
   rw [e];refine Ev.step (f := fun _ => some (l.take (i + 1))) (fun k => ?_) (Ev.now _);rw [r1_Trim.l0,if_pos zO,hw,if_pos zO,if_pos zO,zYe,if_neg zO,Option.bind_some,if_pos zO,if_pos zO,Int.toNat_natCast,if_pos (by rw [List.length_take];simp;omega)]
   rfl
theorem zYE (l : List Int) (hp : Digs l) (hl : l.length ≤ 1000000) : Ev (fun k => r1_Trim.f k l) (toD (valD l)) := by
 have := zKR l hp hl l.length (Nat.le_refl _);rw [List.take_length] at this;exact this
theorem zXI (l : List Int) (i : Nat) : r1_at.f l (i : Int) = some (l.getD i 0) := by
 unfold r1_at.f;by_cases h : i < l.length
 ·rw [if_pos zO,if_pos zO,zYe]
 ·rw [if_neg zO,List.getD_eq_getElem?_getD,List.getElem?_eq_none zO]
  rfl
theorem zZQ (l m : List Int) : r1_most.f l m = some ((max l.length m.length : Nat) : Int) := by
 unfold r1_most.f;by_cases h : (l.length : Int) > (m.length : Int)
 ·rw [if_pos h,Nat.max_eq_left zO]
 ·rw [if_neg h,Nat.max_eq_right zO]
theorem zKy (a : Nat) (h : a < 18446744073709551616) : Go.bits .and .u64 (a : Int) 65535 = ((a % 65536 : Nat) : Int) := by
 have := zYY a 65535 h (by decide);rw [show (65535 : Nat) = 2 ^ 16 - 1 from rfl,Nat.and_two_pow_sub_one_eq_mod] at this;exact this
theorem zWV (l m : List Int) (hp : Digs l) (hm : Digs m) (hl : l.length ≤ 900000) (hml : m.length ≤ 900000) : ∀ (d i : Nat) (acc : List Int) (c : Nat),i + d = max l.length m.length → acc.length = i → Digs acc → c ≤ 1 →
  Ev (fun k => r1_Sum.l0 k l m acc (c : Int) (i : Int)) (toD (valD acc + 65536 ^ i * (valD (l.drop i) + valD (m.drop i) + c)))
 | 0,i,acc,c,hi,ha,hpa,hc => by
  have hd : l.drop i = [] := List.drop_eq_nil_of_le zO;have hd2 : m.drop i = [] := List.drop_eq_nil_of_le zO
  have hv : valD acc + 65536 ^ i * (valD (l.drop i) + valD (m.drop i) + c) = valD (acc ++ [(c : Int)]) := by
   rw [hd,hd2,zXm,ha];simp [valD]
  rw [hv];have ht := zYE (acc ++ [(c : Int)]) (zYb hpa (zXX zO)) (by rw [List.length_append,List.length_singleton];omega);refine Ev.step (fun k => ?_) (Ev.bind ht (Ev.now _));rw [r1_Sum.l0,zZQ,Option.bind_some,if_neg zO,if_pos zO]
 | d + 1,i,acc,c,hi,ha,hpa,hc => by
  obtain ⟨a,ga,ha2,hL,_⟩ := zYy l i hp;obtain ⟨b,gb,hb2,hM,_⟩ := zYy m i hm;have ih := zWV l m hp hm hl hml d (i + 1) (acc ++ [(((a + b + c) % 65536 : Nat) : Int)]) ((a + b + c) / 65536) zO (by rw [List.length_append,List.length_singleton];omega) (zYb hpa (zXX zO)) zO
  have hv : valD acc + 65536 ^ i * (valD (l.drop i) + valD (m.drop i) + c) = valD (acc ++ [(((a + b + c) % 65536 : Nat) : Int)]) + 65536 ^ (i + 1) * (valD (l.drop (i + 1)) + valD (m.drop (i + 1)) + (a + b + c) / 65536) := by
   rw [zXm,ha,hL,hM,Nat.pow_succ,Nat.mul_assoc,Nat.add_assoc (valD acc),← Nat.mul_add];simp only [valD,Nat.mul_zero,Nat.add_zero,Int.toNat_natCast]
   congr 2
   omega
  rw [hv];refine Ev.step (fun k => ?_) ih;rw [r1_Sum.l0,zZQ,Option.bind_some,if_pos zO,zXI,Option.bind_some,zXI,Option.bind_some,if_pos zO,ga,gb,show ((a : Int) + (b : Int)) = ((a + b : Nat) : Int) by push_cast;rfl,u64_in (a + b) zO,show (((a + b : Nat) : Int) + (c : Int)) = ((a + b + c : Nat) : Int) by push_cast;rfl,u64_in (a + b + c) zO,zKy _ zO,wrapB _ zO zO];simp only [Int.natCast_emod,Int.natCast_ediv,Int.natCast_add,Int.natCast_one]
  rfl
theorem zJK (l m : List Int) (hp : Digs l) (hm : Digs m) (hl : l.length ≤ 900000) (hml : m.length ≤ 900000) : Ev (fun k => r1_Sum.f k l m) (toD (valD l + valD m)) := by
 have g := zWV l m hp hm hl hml (max l.length m.length) 0 [] 0 zO rfl (fun y hy => by cases hy) zO;rw [List.drop_zero,List.drop_zero,Nat.pow_zero,Nat.one_mul] at g;(have e : valD [] + (valD l + valD m + 0) = valD l + valD m := by simp [valD]);rw [e] at g;exact g
theorem zZe (l m : List Int) (hp : Digs l) (hm : Digs m) (hl : l.length ≤ 900000) : ∀ (d i : Nat) (acc : List Int) (c : Nat),i + d = l.length → acc.length = i → Digs acc → c ≤ 1 → valD (m.drop i) + c ≤ valD (l.drop i) →
  Ev (fun k => r1_Minus.l0 k l m acc (c : Int) (i : Int)) (toD (valD acc + 65536 ^ i * (valD (l.drop i) - valD (m.drop i) - c)))
 | 0,i,acc,c,hi,ha,hpa,hc,hle => by
  have hd : l.drop i = [] := List.drop_eq_nil_of_le zO;rw [hd] at hle ⊢;(have e : valD ([] : List Int) - valD (m.drop i) - c = 0 := by simp [valD]);rw [e,Nat.mul_zero,Nat.add_zero];refine Ev.step (fun k => ?_) (Ev.bind (zYE acc hpa zO) (Ev.now _));rw [r1_Minus.l0,if_neg zO]
 | d + 1,i,acc,c,hi,ha,hpa,hc,hle => by
  obtain ⟨a,ga,ha2,hL,_⟩ := zYy l i hp;obtain ⟨b,gb,hb2,hM,_⟩ := zYy m i hm;obtain ⟨L,hLe⟩ : ∃ L,L = valD (l.drop (i + 1)) := ⟨_,rfl⟩;obtain ⟨M,hMe⟩ : ∃ M,M = valD (m.drop (i + 1)) := ⟨_,rfl⟩;rw [hL,hM,← hLe,← hMe] at hle ⊢;(have hbc : IntKind.u64.wrap ((b : Int) + (c : Int)) = ((b + c : Nat) : Int) := by rw [show ((b : Int) + (c : Int)) = ((b + c : Nat) : Int) by push_cast;rfl,u64_in _ zO]);by_cases h : a < b + c
  ·have ih := zZe l m hp hm hl d (i + 1) (acc ++ [((a + 65536 - b - c : Nat) : Int)]) 1 zO (by rw [List.length_append,List.length_singleton];omega) (zYb hpa (zXX zO)) zO (by rw [← hLe,← hMe];omega);rw [← hLe,← hMe] at ih
   have hv : valD acc + 65536 ^ i * (a + 65536 * L - (b + 65536 * M) - c) = valD (acc ++ [((a + 65536 - b - c : Nat) : Int)]) + 65536 ^ (i + 1) * (L - M - 1) := by
    rw [zXm,ha,Nat.pow_succ,Nat.mul_assoc,Nat.add_assoc,← Nat.mul_add];simp only [valD,Nat.mul_zero,Nat.add_zero,Int.toNat_natCast]
    congr 2
    omega
   rw [hv];refine Ev.step (fun k => ?_) ih;have hw1 : IntKind.u64.wrap ((a : Int) + 65536) = ((a + 65536 : Nat) : Int) := u64_in (a + 65536) zO;(have hw2 : IntKind.u64.wrap (((a + 65536 : Nat) : Int) - ((b + c : Nat) : Int)) = ((a + 65536 - b - c : Nat) : Int) := by rw [show (((a + 65536 : Nat) : Int) - ((b + c : Nat) : Int)) = ((a + 65536 - b - c : Nat) : Int) by omega,u64_in _ zO]);rw [r1_Minus.l0,if_pos zO,if_pos zO,zXI,Option.bind_some,gb,hbc,zYe,ga,if_pos zO,if_pos zO,hw1,hw2,wrapB _ zO zO]
   rfl
  ·have ih := zZe l m hp hm hl d (i + 1) (acc ++ [((a - b - c : Nat) : Int)]) 0 zO (by rw [List.length_append,List.length_singleton];omega) (zYb hpa (zXX zO)) zO (by rw [← hLe,← hMe];omega);rw [← hLe,← hMe] at ih
   have hv : valD acc + 65536 ^ i * (a + 65536 * L - (b + 65536 * M) - c) = valD (acc ++ [((a - b - c : Nat) : Int)]) + 65536 ^ (i + 1) * (L - M - 0) := by
    rw [zXm,ha,Nat.pow_succ,Nat.mul_assoc,Nat.add_assoc,← Nat.mul_add];simp only [valD,Nat.mul_zero,Nat.add_zero,Int.toNat_natCast]
    congr 2
    omega
   rw [hv];refine Ev.step (fun k => ?_) ih;(have hw2 : IntKind.u64.wrap ((a : Int) - ((b + c : Nat) : Int)) = ((a - b - c : Nat) : Int) := by rw [show ((a : Int) - ((b + c : Nat) : Int)) = ((a - b - c : Nat) : Int) by omega,u64_in _ zO]);rw [r1_Minus.l0,if_pos zO,if_pos zO,zXI,Option.bind_some,gb,hbc,zYe,ga,if_neg zO,if_pos zO,hw2,wrapB _ zO zO]
   rfl
theorem zVn (l m : List Int) (hp : Digs l) (hm : Digs m) (hl : l.length ≤ 900000) (h : valD m ≤ valD l) : Ev (fun k => r1_Minus.f k l m) (toD (valD l - valD m)) := by
 have g := zZe l m hp hm hl l.length 0 [] 0 zO rfl (fun y hy => by cases hy) zO (by rw [List.drop_zero,List.drop_zero];omega);rw [List.drop_zero,List.drop_zero,Nat.pow_zero,Nat.one_mul] at g;(have e : valD [] + (valD l - valD m - 0) = valD l - valD m := by simp [valD]);rw [e] at g;exact g
theorem zJd (l m : List Int) (hp : Digs l) (hm : Digs m) : ∀ i : Nat,i ≤ 900000 → ∃ c : Int,Ev (fun k => r1_Cmp.l0 k l m ((i : Int) - 1)) c ∧ (c ≥ 0 ↔ valD (m.take i) ≤ valD (l.take i))
 | 0,_ => by
  refine ⟨0,Ev.step (f := fun _ => some 0) (fun k => ?_) (Ev.now _),by simp [valD]⟩;rw [r1_Cmp.l0,if_neg zO]
 | i + 1,hi => by
  obtain ⟨a,ga,ha2,ha3⟩ := getDD hp i;obtain ⟨b,gb,hb2,hb3⟩ := getDD hm i
  have tk : ∀ (l : List Int) (a : Nat),l.getD i 0 = (a : Int) → (l.length ≤ i → a = 0) → valD (l.take (i + 1)) = valD (l.take i) + 65536 ^ i * a := by
   intro l a g g0;by_cases h : i < l.length
   ·rw [zYL h,g,Int.toNat_natCast]
   ·rw [List.take_of_length_le zO,List.take_of_length_le zO,g0 zO,Nat.mul_zero,Nat.add_zero]
  have e1 := tk l a ga ha3;have e2 := tk m b gb hb3;have t1 := zXP hp i;have t2 := zXP hm i;(have hk : ((i + 1 : Nat) : Int) - 1 = (i : Int) := by omega);rw [hk,e1,e2];obtain ⟨P,hP⟩ : ∃ P,P = 65536 ^ i := ⟨_,rfl⟩;rw [← hP] at t1 t2 ⊢;by_cases hlt : a < b
  ·refine ⟨-1,Ev.step (f := fun _ => some (-1)) (fun k => ?_) (Ev.now _),?_⟩
   ·rw [r1_Cmp.l0,if_pos zO,zXI,Option.bind_some,zXI,Option.bind_some,ga,gb,if_pos zO]
   ·have : P * (a + 1) ≤ P * b := Nat.mul_le_mul_left _ hlt;rw [Nat.mul_succ] at this;omega
  ·by_cases hgt : b < a
   ·refine ⟨1,Ev.step (f := fun _ => some 1) (fun k => ?_) (Ev.now _),?_⟩
    ·rw [r1_Cmp.l0,if_pos zO,zXI,Option.bind_some,zXI,Option.bind_some,ga,gb,if_neg zO];simp only [Option.bind_some];rw [if_pos zO]
    ·have : P * (b + 1) ≤ P * a := Nat.mul_le_mul_left _ hgt;rw [Nat.mul_succ] at this;omega
   ·(obtain rfl : a = b := by omega);obtain ⟨c,hc,c1⟩ := zJd l m hp hm i zO;refine ⟨c,Ev.step (fun k => ?_) hc,?_⟩
    ·rw [r1_Cmp.l0,if_pos zO,zXI,Option.bind_some,zXI,Option.bind_some,ga,gb,if_neg zO];simp only [Option.bind_some];rw [if_neg zO,wrapB _ zO zO]
    ·rw [c1];omega
theorem zJO (l m : List Int) (hp : Digs l) (hm : Digs m) (hl : l.length ≤ 900000) (hml : m.length ≤ 900000) : ∃ c : Int,Ev (fun k => r1_Cmp.f k l m) c ∧ (c ≥ 0 ↔ valD m ≤ valD l) := by
 obtain ⟨c,hc,c1⟩ := zJd l m hp hm (max l.length m.length) zO;rw [List.take_of_length_le zO,List.take_of_length_le zO] at c1;refine ⟨c,Ev.congr (fun k => ?_) hc,c1⟩;unfold r1_Cmp.f;rw [zZQ,Option.bind_some,wrapB _ zO zO]
theorem zKw (n : Nat) : 0 < (65536 : Nat) ^ n := Nat.pow_pos (by decide)
theorem zXr (n : Nat) : (65536 : Nat) ^ n = 2 ^ (16 * n) := by rw [Nat.pow_mul]
theorem zWg (l : List Int) (i : Nat) (v : Nat) (h : i < l.length) (o : Nat) (ho : l.getD i 0 = (o : Int)) : valD (l.set i (v : Int)) + 65536 ^ i * o = valD l + 65536 ^ i * v := by
 have e1 : l = l.take i ++ (o : Int) :: l.drop (i + 1) := by
  have : l[i] = (o : Int) := by
   rw [← ho,List.getD_eq_getElem?_getD,List.getElem?_eq_getElem h]
   rfl
  rw [← this,← List.drop_eq_getElem_cons h,List.take_append_drop]
 have e2 : l.set i (v : Int) = l.take i ++ (v : Int) :: l.drop (i + 1) := List.set_eq_take_append_cons_drop .. |>.trans (by rw [if_pos h])
 have e3 : valD l = valD (l.take i) + 65536 ^ i * (o + 65536 * valD (l.drop (i + 1))) := by
  (conv => lhs;rw [e1]);rw [zXm,List.length_take,Nat.min_eq_left (Nat.le_of_lt h),valD,Int.toNat_natCast]
 rw [e2,e3,zXm,List.length_take,Nat.min_eq_left (Nat.le_of_lt h),valD,Int.toNat_natCast,Nat.mul_add,Nat.mul_add];omega
theorem zWy {l : List Int} (h : Digs l) (i : Nat) {v : Int} (hv : 0 ≤ v ∧ v < 65536) : Digs (l.set i v) := fun x hx => (List.mem_or_eq_of_mem_set hx).elim (h x) (fun e => e ▸ hv)
theorem getD_set_ne (l : List Int) (i j : Nat) (v : Int) (h : i ≠ j) : (l.set i v).getD j 0 = l.getD j 0 := by
 rw [List.getD_eq_getElem?_getD,List.getElem?_set_ne h,← List.getD_eq_getElem?_getD]
theorem zYx (i : Nat) (h : i ≤ 1000000000) : wrap64 ((i : Int) + 1) = ((i + 1 : Nat) : Int) := by rw [wrapB _ zO zO];omega
theorem wrap_add (i q : Nat) (h : i + q ≤ 1000000000) : wrap64 ((i : Int) + (q : Int)) = ((i + q : Nat) : Int) := by rw [wrapB _ zO zO];omega
theorem zBT : ∀ z : Nat,z % 2 = 0 → z < 2 → z = 0 := by omega
theorem zHN {a b : Nat} (ha : a < 65536) (hb : b < 65536) : a * b ≤ 4294836225 := by
 have : a * b ≤ 65535 * 65535 := Nat.mul_le_mul zO zO;omega
theorem zBq (l m : List Int) (hp : Digs l) (hm : Digs m) (hl : l.length ≤ 400000) (hml : m.length ≤ 400000) (i a : Nat) (hi : i < l.length) (ha : l.getD i 0 = (a : Int)) (ha2 : a < 65536) (V : Nat) (r : List Int)
  (hend : ∀ out : List Int,out.length = l.length + m.length → Digs out → (∀ j,i + m.length < j → out.getD j 0 = 0) → valD out = V + 65536 ^ i * (a * valD m) → Ev (fun k => r1_Product.l0 k l m out ((i + 1 : Nat) : Int)) r) :
  ∀ (d q : Nat) (out : List Int) (c : Nat),q + d = m.length → c < 65536 → out.length = l.length + m.length → Digs out → (∀ j,i + m.length ≤ j → out.getD j 0 = 0) → valD out + 65536 ^ (i + q) * c = V + 65536 ^ i * (a * valD (m.take q)) →
  Ev (fun k => r1_Product.l1 k l m out (i : Int) (c : Int) (q : Int)) r
 | 0,q,out,c,hq,hc,hol,hod,hoz,hv => by
  (obtain rfl : q = m.length := by omega);rw [List.take_length] at hv;have hs := zWg out (i + m.length) c zO 0 (by rw [hoz _ (Nat.le_refl _)];rfl);have g := hend (out.set (i + m.length) (c : Int)) (by rw [List.length_set];exact hol) (zWy hod _ zO) (fun j hj => by rw [getD_set_ne _ _ _ _ zO];exact hoz j zO) zO;(have b1 : i + m.length ≤ 1000000000 := by omega);(have b2 : i ≤ 1000000000 := by omega);have hw := wrap_add i m.length b1;have w1 := zYx i b2
  have q1 : ¬ ((m.length : Nat) : Int) < ((m.length : Nat) : Int) := Int.lt_irrefl _
  have q2 : (0 : Int) ≤ ((i + m.length : Nat) : Int) := Int.natCast_nonneg _
  have q3 : ((i + m.length : Nat) : Int) < ((out.length : Nat) : Int) := Int.ofNat_lt.2 (by rw [hol];exact Nat.add_lt_add_right hi _);refine Ev.step (fun k => ?_) g;rw [r1_Product.l1,if_neg q1,hw,if_pos q2,if_pos q3,Int.toNat_natCast,w1]
 | d + 1,q,out,c,hq,hc,hol,hod,hoz,hv => by
  obtain ⟨b,gb,hb2,_⟩ := getDD hm q;obtain ⟨o,go,ho2,_⟩ := getDD hod (i + q);have hmul := zHN ha2 hb2;have ht := zYL (l := m) (i := q) zO;rw [gb,Int.toNat_natCast] at ht;have hs := zWg out (i + q) ((o + a * b + c) % 65536) zO o go;have hpow : 65536 ^ (i + (q + 1)) = 65536 ^ (i + q) * 65536 := by rw [← Nat.add_assoc,Nat.pow_succ]
  have hval : valD (out.set (i + q) (((o + a * b + c) % 65536 : Nat) : Int)) + 65536 ^ (i + (q + 1)) * ((o + a * b + c) / 65536) = V + 65536 ^ i * (a * valD (m.take (q + 1))) := by
   rw [ht,hpow,Nat.mul_assoc];obtain ⟨P,hP⟩ : ∃ P,P = 65536 ^ (i + q) := ⟨_,rfl⟩;rw [← hP] at hs hv ⊢
   have e1 : 65536 ^ i * (a * (valD (m.take q) + 65536 ^ q * b)) = 65536 ^ i * (a * valD (m.take q)) + P * (a * b) := by
    rw [hP,Nat.pow_add,Nat.mul_add,Nat.mul_add]
    congr 1
    simp only [Nat.mul_assoc,Nat.mul_comm,Nat.mul_left_comm]
   rw [e1]
   have e2 : P * ((o + a * b + c) % 65536) + P * (65536 * ((o + a * b + c) / 65536)) = P * o + P * (a * b) + P * c := by
    rw [← Nat.mul_add,Nat.mod_add_div,Nat.mul_add,Nat.mul_add]
   omega
  have ih := zBq l m hp hm hl hml i a hi ha ha2 V r hend d (q + 1) (out.set (i + q) (((o + a * b + c) % 65536 : Nat) : Int)) ((o + a * b + c) / 65536) zO zO (by rw [List.length_set];exact hol) (zWy hod _ zO)
   (fun j hj => by rw [getD_set_ne _ _ _ _ zO];exact hoz j hj) hval
  have q1 : ((q : Nat) : Int) < ((m.length : Nat) : Int) := Int.ofNat_lt.2 zO
  have q2 : (0 : Int) ≤ ((i + q : Nat) : Int) := Int.natCast_nonneg _
  have q3 : ((i + q : Nat) : Int) < ((out.length : Nat) : Int) := Int.ofNat_lt.2 zO
  have q4 : (0 : Int) ≤ ((i : Nat) : Int) := Int.natCast_nonneg _
  have q5 : ((i : Nat) : Int) < ((l.length : Nat) : Int) := Int.ofNat_lt.2 hi
  have q6 : (0 : Int) ≤ ((q : Nat) : Int) := Int.natCast_nonneg _
  (have q7 : o + a * b + c < 18446744073709551616 := by omega);(have q8 : a * b < 18446744073709551616 := by omega);(have q9 : o + a * b < 18446744073709551616 := by omega);(have b1 : i + q ≤ 1000000000 := by omega);(have b2 : q ≤ 1000000000 := by omega);have hw := wrap_add i q b1;have w1 := zYx q b2;refine Ev.step (fun k => ?_) ih
  have hx : IntKind.u64.wrap ((IntKind.u64.wrap ((rd out ((i + q : Nat) : Int)) + (IntKind.u64.wrap ((rd l (i : Int)) * (rd m (q : Int)))))) + (c : Int)) = ((o + a * b + c : Nat) : Int) := by
   rw [zYe,zYe,zYe,go,ha,gb,show ((a : Int) * (b : Int)) = ((a * b : Nat) : Int) by push_cast;rfl,u64_in (a * b) q8,show ((o : Int) + ((a * b : Nat) : Int)) = ((o + a * b : Nat) : Int) by push_cast;rfl,u64_in (o + a * b) q9,show (((o + a * b : Nat) : Int) + (c : Int)) = ((o + a * b + c : Nat) : Int) by push_cast;rfl,u64_in _ q7]
  rw [r1_Product.l1,if_pos q1,hw,if_pos q2,if_pos q3,if_pos q4,if_pos q5,if_pos q6,hx,zKy _ q7,Int.toNat_natCast,w1]
  rfl
theorem zJg (l m : List Int) (hp : Digs l) (hm : Digs m) (hl : l.length ≤ 400000) (hml : m.length ≤ 400000) : ∀ (d i : Nat) (out : List Int),i + d = l.length → out.length = l.length + m.length → Digs out → (∀ j,i + m.length ≤ j → out.getD j 0 = 0) → valD out = valD (l.take i) * valD m →
  Ev (fun k => r1_Product.l0 k l m out (i : Int)) (toD (valD l * valD m))
 | 0,i,out,hi,hol,hod,hoz,hv => by
  (obtain rfl : i = l.length := by omega);rw [List.take_length] at hv;refine Ev.step (fun k => ?_) (Ev.bind (f := fun _ t => some t) (hv ▸ zYE out hod zO) (Ev.now _));rw [r1_Product.l0,if_neg zO]
 | d + 1,i,out,hi,hol,hod,hoz,hv => by
  obtain ⟨a,ga,ha2,_⟩ := getDD hp i;have ht := zYL (l := l) (i := i) zO;rw [ga,Int.toNat_natCast] at ht
  have hrow := zBq l m hp hm hl hml i a zO ga ha2 (valD out) (toD (valD l * valD m))
   (fun out' h1 h2 h3 h4 => zJg l m hp hm hl hml d (i + 1) out' zO h1 h2 (fun j hj => h3 j zO) (by rw [h4,ht,hv,Nat.add_mul,Nat.mul_assoc]))
   m.length 0 out 0 zO zO hol hod hoz (by simp [valD])
  refine Ev.step (fun k => ?_) hrow;rw [r1_Product.l0,if_pos zO]
  rfl
theorem zZv (n : Nat) : Digs (List.replicate n (0 : Int)) := fun x hx => by rw [List.eq_of_mem_replicate hx];omega
theorem zZf : ∀ n,valD (List.replicate n (0 : Int)) = 0
 | 0 => rfl
 | n + 1 => by rw [List.replicate_succ,valD,zZf n];rfl
theorem zYm (l m : List Int) (hp : Digs l) (hm : Digs m) (hl : l.length ≤ 400000) (hml : m.length ≤ 400000) : Ev (fun k => r1_Product.f k l m) (toD (valD l * valD m)) := by
 have h := zJg l m hp hm hl hml l.length 0 (List.replicate (l.length + m.length) 0) zO (List.length_replicate ..) (zZv _) (fun j _ => by
   rw [List.getD_eq_getElem?_getD];by_cases hj : j < l.length + m.length
   ·rw [List.getElem?_replicate_of_lt hj];rfl
   ·rw [List.getElem?_eq_none (by rw [List.length_replicate];omega)];rfl) (by rw [zZf];simp [valD])
 (have hw : wrap64 ((l.length : Int) + (m.length : Int)) = ((l.length + m.length : Nat) : Int) := by rw [wrapB _ zO zO];omega);refine Ev.congr (fun k => ?_) h;unfold r1_Product.f;rw [hw,if_pos zO,if_pos zO,Int.toNat_natCast]
 rfl
theorem zKQ (l : List Int) (hp : Digs l) (n : Nat) (hl : l.length + n ≤ 300000) : Ev (fun k => r1_Up.f k l (n : Int)) (toD (valD l * 2 ^ n)) := by
 (have hq : Int.tdiv (n : Int) 16 = ((n / 16 : Nat) : Int) := by rw [Int.tdiv_eq_ediv_of_nonneg zO];omega);(have hr : Int.tmod (n : Int) 16 = ((n % 16 : Nat) : Int) := by rw [Int.tmod_eq_emod_of_nonneg zO];omega);have hlt : 2 ^ (n % 16) < 65536 := Nat.lt_of_lt_of_le (Nat.pow_lt_pow_right (by decide) (Nat.mod_lt n (by decide : 0 < 16))) (Nat.le_refl _)
 have hsh : shl .u64 1 ((n % 16 : Nat) : Int) = ((2 ^ (n % 16) : Nat) : Int) := by
  have h9 := zJH 1 (n % 16) zO;rw [Nat.one_mul,Nat.mod_eq_of_lt (Nat.lt_of_lt_of_le hlt (by decide))] at h9;exact h9
 have hone : Digs [((2 ^ (n % 16) : Nat) : Int)] := zXX ⟨Int.natCast_nonneg _,Int.ofNat_lt.2 hlt⟩;have hz : Digs (List.replicate (n / 16) 0 ++ l) := zYb (zZv _) hp;(have hzl : (List.replicate (n / 16) (0 : Int) ++ l).length ≤ 400000 := by rw [List.length_append,List.length_replicate];omega);have hpr := zYm (List.replicate (n / 16) 0 ++ l) [((2 ^ (n % 16) : Nat) : Int)] hz hone hzl (show 1 ≤ 400000 by decide)
 have hval : valD (List.replicate (n / 16) 0 ++ l) * valD [((2 ^ (n % 16) : Nat) : Int)] = valD l * 2 ^ n := by
  rw [zXm,zZf,List.length_replicate];simp only [valD,Nat.zero_add,Nat.mul_zero,Nat.add_zero,Int.toNat_natCast];rw [zXr,Nat.mul_comm (2 ^ (16 * (n / 16))),Nat.mul_assoc,← Nat.pow_add]
  congr 2
  omega
 rw [hval] at hpr
 have hlen : (toD (valD l * 2 ^ n)).length ≤ 1000000 := by
  have hL : ∀ (L x : Nat),x < 65536 ^ L → (toD x).length ≤ L := by
   intro L
   induction L with
   | zero =>
    intro x h;(have hx0 : x = 0 := by rw [Nat.pow_zero] at h;omega);rw [hx0,zXf]
    exact Nat.le_refl _
   | succ L ih =>
    intro x h;by_cases h0 : x = 0
    ·rw [h0,zXf];exact Nat.zero_le _
    ·rw [zYa h0,List.length_cons]
     have : x / 65536 < 65536 ^ L := by
      rw [Nat.pow_succ] at h;exact Nat.div_lt_of_lt_mul (by rw [Nat.mul_comm];exact h)
     have := ih _ this;omega
  refine Nat.le_trans (hL (l.length + n) _ ?_) zO;rw [Nat.pow_add];exact Nat.mul_lt_mul_of_lt_of_le (zYB hp) (Nat.pow_le_pow_left (by decide) n) (Nat.pow_pos (by decide))
 have htr := zYE _ (zQJ (valD l * 2 ^ n)) hlen;rw [zQN] at htr;have hb : Ev (fun k => (r1_Product.f k (List.replicate (n / 16) 0 ++ l) [((2 ^ (n % 16) : Nat) : Int)]).bind fun t => (r1_Trim.f k t).bind fun u => some u) (toD (valD l * 2 ^ n)) := Ev.bind hpr (Ev.bind htr (Ev.now _));refine Ev.congr (fun k => ?_) hb;unfold r1_Up.f;rw [hq,hr,wrapB _ zO zO,if_pos zO,if_pos zO,Option.bind_some,Int.toNat_natCast,u64_in _ zO,if_pos (by rw [List.length_replicate];omega),if_pos zO,hsh]
theorem zKj (l : List Int) (hp : Digs l) (i : Nat) (hi : i ≤ 100000000) : r1_Bit.f l (i : Int) = some ((valD l / 2 ^ i % 2 : Nat) : Int) := by
 (have hq : Int.tdiv (i : Int) 16 = ((i / 16 : Nat) : Int) := by rw [Int.tdiv_eq_ediv_of_nonneg zO];omega);(have hr : Int.tmod (i : Int) 16 = ((i % 16 : Nat) : Int) := by rw [Int.tmod_eq_emod_of_nonneg zO];omega);obtain ⟨a,ga,ha2,_⟩ := getDD hp (i / 16);have hrl : i % 16 < 16 := Nat.mod_lt _ (by decide)
 have hbit : a / 2 ^ (i % 16) % 2 = valD l / 2 ^ i % 2 := by
  obtain ⟨a',ga',_,hd,_⟩ := zYy l (i / 16) hp;obtain rfl : a = a' := by rw [ga] at ga';omega
  have hsplit : valD l = valD (l.take (i / 16)) + 65536 ^ (i / 16) * valD (l.drop (i / 16)) := by
   by_cases h : i / 16 ≤ l.length
   ·have := zXm (l.take (i / 16)) (l.drop (i / 16));rw [List.take_append_drop,List.length_take,Nat.min_eq_left h] at this;exact this
   ·rw [List.take_of_length_le zO,List.drop_eq_nil_of_le zO];simp [valD]
  have hlow := zXP hp (i / 16)
  have hdiv : valD l / 2 ^ (16 * (i / 16)) = valD (l.drop (i / 16)) := by
   rw [← zXr,hsplit,Nat.add_mul_div_left _ _ (zKw _),Nat.div_eq_of_lt hlow,Nat.zero_add]
  (have hi2 : i = 16 * (i / 16) + i % 16 := by omega);(conv => rhs;rw [hi2]);rw [Nat.pow_add,← Nat.div_div_eq_div_mul,hdiv,hd];obtain ⟨j,hj⟩ : ∃ j,16 = i % 16 + 1 + j := ⟨16 - (i % 16 + 1),by omega⟩
  have e16 : (65536 : Nat) = 2 ^ (i % 16) * (2 * 2 ^ j) := by
   rw [← Nat.mul_assoc,← Nat.pow_succ,← Nat.pow_add,← hj]
  rw [e16,Nat.mul_assoc,Nat.add_mul_div_left _ _ (Nat.two_pow_pos _),Nat.mul_assoc,Nat.add_mul_mod_self_left]
 unfold r1_Bit.f;have hsr := zHE a (i % 16) zO;have hdl : a / 2 ^ (i % 16) < 18446744073709551616 := Nat.lt_of_le_of_lt (Nat.div_le_self ..) zO
 have hand : Go.bits .and .u64 ((a / 2 ^ (i % 16) : Nat) : Int) 1 = ((a / 2 ^ (i % 16) % 2 : Nat) : Int) := by
  have := zYY (a / 2 ^ (i % 16)) 1 hdl (by decide);rw [show (1 : Nat) = 2 ^ 1 - 1 from rfl,Nat.and_two_pow_sub_one_eq_mod] at this;exact this
 rw [hq,hr,wrapB _ zO zO,zXI,Option.bind_some,u64_in _ zO,if_pos zO,ga,hsr,hand,hbit]
theorem zWY (l : List Int) (hp : Digs l) : ∀ n : Nat,n ≤ 100000000 → valD l < 2 ^ n → ∃ L : Nat,L ≤ n ∧ LenIs (valD l) L ∧ Ev (fun k => r1_Len.l0 k l (n : Int)) (L : Int)
 | 0,_,h => by
  rw [Nat.pow_zero] at h;refine ⟨0,Nat.le_refl _,⟨fun _ => rfl,fun h0 => absurd zO h0⟩,Ev.step (f := fun _ => some 0) (fun k => ?_) (Ev.now _)⟩;rw [r1_Len.l0,if_neg zO]
  rfl
 | n + 1,hn,h => by
  (have hw : wrap64 (((n + 1 : Nat) : Int) - 1) = (n : Int) := by rw [wrapB _ zO zO];omega);have hb := zKj l hp n zO;(have hpw : (2 : Nat) ^ (n + 1) = 2 * 2 ^ n := by rw [Nat.pow_succ,Nat.mul_comm]);have hpos := Nat.two_pow_pos n
  have hdl : valD l / 2 ^ n < 2 := by
   rw [Nat.div_lt_iff_lt_mul hpos,← hpw];exact h
  by_cases h0 : valD l / 2 ^ n % 2 = 0
  ·have hlt : valD l < 2 ^ n := by
    have : valD l / 2 ^ n = 0 := zBT _ h0 hdl;exact (Nat.div_eq_zero_iff_lt hpos).1 this
   obtain ⟨L,h1,h2,h3⟩ := zWY l hp n zO hlt;refine ⟨L,by omega,h2,Ev.step (fun k => ?_) h3⟩;rw [r1_Len.l0,if_pos zO,hw,hb,Option.bind_some,if_pos (by rw [h0];rfl)]
  ·have hge : 2 ^ n ≤ valD l := by
    apply Nat.le_of_not_lt;intro hlt;rw [Nat.div_eq_of_lt hlt] at h0;exact h0 rfl
   refine ⟨n + 1,Nat.le_refl _,⟨fun h0' => by omega,fun _ => ⟨by omega,by rw [Nat.add_sub_cancel];exact hge,h⟩⟩,Ev.step (f := fun _ => some ((n + 1 : Nat) : Int)) (fun k => ?_) (Ev.now _)⟩;rw [r1_Len.l0,if_pos zO,hw,hb,Option.bind_some,if_neg (fun c => h0 (Int.natCast_eq_zero.1 c))]
theorem zZz (l : List Int) (hp : Digs l) (hl : l.length ≤ 1000000) : ∃ L : Nat,L ≤ 16 * l.length ∧ LenIs (valD l) L ∧ Ev (fun k => r1_Len.f k l) (L : Int) := by
 have hlt := zYB hp;rw [zXr] at hlt;obtain ⟨L,h1,h2,h3⟩ := zWY l hp (16 * l.length) zO hlt;refine ⟨L,h1,h2,Ev.congr (fun k => ?_) h3⟩;unfold r1_Len.f;rw [wrapB _ zO zO]
 rfl
theorem zKp : ∀ (L x : Nat),x < 65536 ^ L → (toD x).length ≤ L
 | 0,x,h => by
  have : x = 0 := by rw [Nat.pow_zero] at h;omega
  rw [this,zXf];exact Nat.le_refl _
 | L + 1,x,h => by
  by_cases h0 : x = 0
  ·rw [h0,zXf];exact Nat.zero_le _
  ·rw [zYa h0,List.length_cons]
   have : x / 65536 < 65536 ^ L := by
    rw [Nat.pow_succ] at h;exact Nat.div_lt_of_lt_mul (by rw [Nat.mul_comm];exact h)
   have := zKp L _ this;omega
theorem zXn {x m : Nat} (h : x < 2 ^ m) : (toD x).length ≤ m / 16 + 1 := by
 refine zKp _ _ (Nat.lt_of_lt_of_le h ?_);rw [zXr];exact Nat.pow_le_pow_right (by decide) zO
theorem zWP (x : Nat) (h : x < 18446744073709551616) : r1_Small.f (toD x) = some (x : Int) := by
 have dig : ∀ i : Nat,(toD x).getD i 0 = ((x / 65536 ^ i % 65536 : Nat) : Int) := by
  have g : ∀ (i x : Nat),(toD x).getD i 0 = ((x / 65536 ^ i % 65536 : Nat) : Int) := by
   intro i
   induction i with
   | zero =>
    intro x;by_cases h0 : x = 0
    ·subst h0;rw [zXf];rfl
    ·rw [zYa h0,Nat.pow_zero,Nat.div_one];rfl
   | succ i ih =>
    intro x;by_cases h0 : x = 0
    ·subst h0;rw [zXf,Nat.zero_div];rfl
    ·rw [zYa h0,Nat.pow_succ,Nat.mul_comm,← Nat.div_div_eq_div_mul]
     exact ih _
  exact fun i => g i x
 unfold r1_Small.f;have a0 := zXI (toD x) 0;have a1 := zXI (toD x) 1;have a2 := zXI (toD x) 2;have a3 := zXI (toD x) 3;rw [dig] at a0 a1 a2 a3;rw [show ((0 : Int)) = ((0 : Nat) : Int) from rfl,show ((1 : Int)) = ((1 : Nat) : Int) from rfl,show ((2 : Int)) = ((2 : Nat) : Int) from rfl,show ((3 : Int)) = ((3 : Nat) : Int) from rfl,a0,Option.bind_some,a1,Option.bind_some,a2,Option.bind_some,a3,Option.bind_some];rw [show (65536 : Nat) ^ 0 = 1 from rfl,show (65536 : Nat) ^ 1 = 65536 from rfl,show (65536 : Nat) ^ 2 = 4294967296 from rfl,show (65536 : Nat) ^ 3 = 281474976710656 from rfl,Nat.div_one];obtain ⟨p,hp⟩ : ∃ p,p = x % 65536 := ⟨_,rfl⟩;obtain ⟨q,hq⟩ : ∃ q,q = x / 65536 % 65536 := ⟨_,rfl⟩;obtain ⟨r,hr⟩ : ∃ r,r = x / 4294967296 % 65536 := ⟨_,rfl⟩;obtain ⟨s,hs⟩ : ∃ s,s = x / 281474976710656 % 65536 := ⟨_,rfl⟩;rw [← hp,← hq,← hr,← hs];(have w1 : IntKind.u64.wrap ((q : Int) * 65536) = ((q * 65536 : Nat) : Int) := by rw [show ((q : Int) * 65536) = ((q * 65536 : Nat) : Int) by omega,u64_in _ zO]);(have w2 : IntKind.u64.wrap ((r : Int) * 4294967296) = ((r * 4294967296 : Nat) : Int) := by rw [show ((r : Int) * 4294967296) = ((r * 4294967296 : Nat) : Int) by omega,u64_in _ zO]);have w3 : IntKind.u64.wrap ((s : Int) * 281474976710656) = ((s * 281474976710656 : Nat) : Int) := by rw [show ((s : Int) * 281474976710656) = ((s * 281474976710656 : Nat) : Int) by omega,u64_in _ zO]
 have orr : ∀ (n a b : Nat),a < 2 ^ n → a ||| b * 2 ^ n = a + b * 2 ^ n := by
  intro n a b h;have := Nat.two_pow_add_eq_or_of_lt (i := n) h b;rw [Nat.or_comm,Nat.mul_comm b,← this,Nat.add_comm]
 have o1 := orr 16 p q (by show p < 65536;omega);have o2 := orr 32 (p + q * 65536) r (by show p + q * 65536 < 4294967296;omega);have o3 := orr 48 (p + q * 65536 + r * 4294967296) s (by show p + q * 65536 + r * 4294967296 < 281474976710656;omega);rw [show (2 : Nat) ^ 16 = 65536 from rfl] at o1;rw [show (2 : Nat) ^ 32 = 4294967296 from rfl] at o2;rw [show (2 : Nat) ^ 48 = 281474976710656 from rfl] at o3;rw [w1,w2,w3,zYS _ _ zO zO,o1,zYS _ _ zO zO,o2,zYS _ _ zO zO,o3]
 congr 2
 omega
theorem zJt (l : List Int) (hp : Digs l) (lost : Bool) (out : List Int) (i : Nat) (hi : i ≤ 50000000) (r : List Int × Bool)
  (hend : Ev (fun k => if out.length < 17592186044416 then r1_Down.l1 k l lost (out ++ [((valD l / 2 ^ i % 65536 : Nat) : Int)]) (wrap64 ((i : Int) + 16)) else none) r) : ∀ (d t : Nat),t + d = 16 →
  Ev (fun k => r1_Down.l2 k l lost out (i : Int) ((valD l / 2 ^ i % 2 ^ t : Nat) : Int) (t : Int)) r
 | 0,t,ht => by
  (obtain rfl : t = 16 := by omega);refine Ev.step (fun k => ?_) hend;rw [r1_Down.l2,if_neg (by decide)]
 | d + 1,t,ht => by
  have ih := zJt l hp lost out i hi r hend d (t + 1) zO;refine Ev.step (fun k => ?_) ih;(have b1 : i + t ≤ 1000000000 := by omega);have hbit := zKj l hp (i + t) zO;obtain ⟨x,hx⟩ : ∃ x,x = valD l / 2 ^ i := ⟨_,rfl⟩;(have hsh : valD l / 2 ^ (i + t) = x / 2 ^ t := by rw [Nat.pow_add,← Nat.div_div_eq_div_mul,hx]);rw [hsh] at hbit;rw [← hx];have hb2 : x / 2 ^ t % 2 < 2 := Nat.mod_lt _ (by decide);have hT : 2 ^ t < 65536 := Nat.lt_of_lt_of_le (Nat.pow_lt_pow_right (by decide) (show t < 16 by omega)) (Nat.le_refl _);have hm : x % 2 ^ t < 2 ^ t := Nat.mod_lt _ (Nat.two_pow_pos t)
  have hmul : x / 2 ^ t % 2 * 2 ^ t < 131072 := by
   have : x / 2 ^ t % 2 * 2 ^ t ≤ 1 * 2 ^ t := Nat.mul_le_mul_right _ zO;omega
  have hshl : shl .u64 ((x / 2 ^ t % 2 : Nat) : Int) (t : Int) = ((x / 2 ^ t % 2 * 2 ^ t : Nat) : Int) := by
   rw [zJH _ _ zO,Nat.mod_eq_of_lt (Nat.lt_of_lt_of_le hmul (by decide))]
  have hor : x % 2 ^ t ||| x / 2 ^ t % 2 * 2 ^ t = x % 2 ^ (t + 1) := by
   have := Nat.two_pow_add_eq_or_of_lt (i := t) hm (x / 2 ^ t % 2);rw [Nat.or_comm,Nat.mul_comm,← this,Nat.pow_succ,Nat.mod_mul,Nat.add_comm]
  have h1 : x % 2 ^ t < 18446744073709551616 := Nat.lt_of_lt_of_le hm (Nat.le_trans (Nat.le_of_lt hT) (by decide));have h2 : x / 2 ^ t % 2 * 2 ^ t < 18446744073709551616 := Nat.lt_of_lt_of_le hmul (by decide);rw [r1_Down.l2,if_pos zO,wrap_add i t b1,hbit,Option.bind_some,u64_in t zO,if_pos zO,hshl,zYS _ _ h1 h2,hor,zYx t zO]
theorem zVP (l : List Int) (hp : Digs l) (hl : l.length ≤ 1000000) (n : Nat) (hn : n ≤ 10000000) (lost : Bool) : ∀ (d q : Nat) (out : List Int),16 * l.length ≤ n + 16 * (q + d) → q ≤ 1000000 → q + d ≤ 1000001 → out.length = q → Digs out → valD out = valD l / 2 ^ n % 65536 ^ q →
  (q = 0 ∨ n + 16 * (q - 1) < 16 * l.length) →
  Ev (fun k => r1_Down.l1 k l lost out ((n + 16 * q : Nat) : Int)) (toD (valD l / 2 ^ n),lost) := by
 intro d
 induction d with
 | zero =>
  intro q out h1 h2 h2' h3 h4 h5 h6
  have hlt : valD l / 2 ^ n < 65536 ^ q := by
   rw [Nat.div_lt_iff_lt_mul (Nat.two_pow_pos n),zXr,← Nat.pow_add];have := zYB hp;rw [zXr] at this;exact Nat.lt_of_lt_of_le this (Nat.pow_le_pow_right (by decide) zO)
  rw [Nat.mod_eq_of_lt hlt] at h5;have ht := zYE out h4 zO;rw [h5] at ht;refine Ev.step (fun k => ?_) (Ev.bind (f := fun _ t => some (t,lost)) ht (Ev.now _));rw [r1_Down.l1,wrapB (16 * _) zO zO,if_neg zO]
 | succ d ih =>
  intro q out h1 h2 h2' h3 h4 h5 h6;by_cases hc : n + 16 * q < 16 * l.length
  ·have hnext := ih (q + 1) (out ++ [((valD l / 2 ^ (n + 16 * q) % 65536 : Nat) : Int)]) zO zO zO (by rw [List.length_append,List.length_singleton];omega) (zYb h4 (zXX ⟨Int.natCast_nonneg _,Int.ofNat_lt.2 (Nat.mod_lt _ (by decide))⟩)) (by
     rw [zXm,h3,h5,Nat.pow_add,← Nat.div_div_eq_div_mul,zXr q];simp only [valD,Nat.mul_zero,Nat.add_zero,Int.toNat_natCast]
     rw [← zXr,Nat.pow_succ,Nat.mod_mul]) (.inr zO)
   have hend : Ev (fun k => if out.length < 17592186044416 then r1_Down.l1 k l lost (out ++ [((valD l / 2 ^ (n + 16 * q) % 65536 : Nat) : Int)]) (wrap64 (((n + 16 * q : Nat) : Int) + 16)) else none) (toD (valD l / 2 ^ n),lost) := by
    refine Ev.congr (fun k => ?_) hnext;rw [if_pos zO,wrapB _ zO zO]
    congr 1
   have hb := zJt l hp lost out (n + 16 * q) zO _ hend 16 0 zO;rw [Nat.pow_zero,Nat.mod_one] at hb;refine Ev.step (fun k => ?_) hb;rw [r1_Down.l1,wrapB (16 * _) zO zO,if_pos zO]
   rfl
  ·
   have hlt : valD l / 2 ^ n < 65536 ^ q := by
    rw [Nat.div_lt_iff_lt_mul (Nat.two_pow_pos n),zXr,← Nat.pow_add];have := zYB hp;rw [zXr] at this;exact Nat.lt_of_lt_of_le this (Nat.pow_le_pow_right (by decide) zO)
   rw [Nat.mod_eq_of_lt hlt] at h5;have ht := zYE out h4 zO;rw [h5] at ht;refine Ev.step (fun k => ?_) (Ev.bind (f := fun _ t => some (t,lost)) ht (Ev.now _));rw [r1_Down.l1,wrapB (16 * _) zO zO,if_neg zO]
theorem zJp (l : List Int) (hp : Digs l) (hl : l.length ≤ 1000000) (n : Nat) (hn : n ≤ 10000000) : ∀ (d i : Nat),i + d = min n (16 * l.length) →
  Ev (fun k => r1_Down.l0 k l (n : Int) (decide (valD l % 2 ^ i ≠ 0)) (i : Int)) (toD (valD l / 2 ^ n),decide (valD l % 2 ^ n ≠ 0))
 | 0,i,hi => by
  have hlost : decide (valD l % 2 ^ i ≠ 0) = decide (valD l % 2 ^ n ≠ 0) := by
   by_cases h : n ≤ 16 * l.length
   ·rw [show i = n by omega]
   ·have hv := zYB hp;rw [zXr] at hv;rw [Nat.mod_eq_of_lt (Nat.lt_of_lt_of_le hv (Nat.pow_le_pow_right (by decide) zO)),Nat.mod_eq_of_lt (Nat.lt_of_lt_of_le hv (Nat.pow_le_pow_right (by decide) zO))]
  rw [hlost];have hd := zVP l hp hl n hn (decide (valD l % 2 ^ n ≠ 0)) (1000001 - 1) 0 [] zO zO zO rfl (fun y hy => by cases hy) (by rw [Nat.pow_zero,Nat.mod_one];rfl) (.inl rfl);rw [Nat.mul_zero,Nat.add_zero] at hd;have hj : Ev (fun k => r1_Down.j1 k l (n : Int) (decide (valD l % 2 ^ n ≠ 0))) (toD (valD l / 2 ^ n),decide (valD l % 2 ^ n ≠ 0)) := Ev.step (fun k => by rw [r1_Down.j1]) hd;refine Ev.step (fun k => ?_) hj;rw [r1_Down.l0];by_cases h : (i : Int) < (n : Int)
  ·rw [if_pos h,wrapB (16 * _) zO zO,if_neg zO]
  ·rw [if_neg h]
 | d + 1,i,hi => by
  have ih := zJp l hp hl n hn d (i + 1) zO;have hbit := zKj l hp i zO;(have hs : valD l % 2 ^ (i + 1) = valD l % 2 ^ i + 2 ^ i * (valD l / 2 ^ i % 2) := by rw [Nat.pow_succ,Nat.mod_mul]);refine Ev.step (fun k => ?_) ih;rw [r1_Down.l0,if_pos zO,wrapB (16 * _) zO zO,if_pos zO];by_cases h : valD l % 2 ^ i ≠ 0
  ·rw [decide_eq_true h,if_pos rfl,zYx i zO,decide_eq_true (by rw [hs];omega)]
  ·rw [decide_eq_false h,if_neg (by decide),hbit,Option.bind_some,zYx i zO]
   congr 1
   rw [hs];have h0 : valD l % 2 ^ i = 0 := Decidable.not_not.1 h;rw [h0,Nat.zero_add];have hm : valD l / 2 ^ i % 2 < 2 := Nat.mod_lt _ (by decide);obtain ⟨b,hb⟩ : ∃ b,b = valD l / 2 ^ i % 2 := ⟨_,rfl⟩;rw [← hb] at hm ⊢;have hpos := Nat.two_pow_pos i;rcases (show b = 0 ∨ b = 1 by omega) with e | e
   ·subst e;rw [Nat.mul_zero];rfl
   ·subst e;rw [Nat.mul_one,decide_eq_true zO];rfl
theorem zGv (l : List Int) (hp : Digs l) (hl : l.length ≤ 1000000) (n : Nat) (hn : n ≤ 10000000) : Ev (fun k => r1_Down.f k l (n : Int)) (toD (valD l / 2 ^ n),decide (valD l % 2 ^ n ≠ 0)) := by
 have h := zJp l hp hl n hn (min n (16 * l.length)) 0 zO;rw [Nat.pow_zero,Nat.mod_one] at h;exact h
end Go.Proofs.YtongfmeediokmaaGreatDoor.Pure
end
section
namespace Go.Proofs.YtongfmeediokmaaGreatDoor.Pure
open Go.RowKit YtongfmeediokmaaGreatDoor.Pr YtongfmeediokmaaGreatDoorW.PrintWords YtongfmeediokmaaGreatDoorW.PrintLast YtongfmeediokmaaGreatDoorW.PrintMore YtongfmeediokmaaGreatDoor.Flo
theorem zWt {x L m : Nat} (h : LenIs x L) (hm : x < 2 ^ m) : L ≤ m := by
 by_cases h0 : x = 0
 ·rw [h.1 h0];exact Nat.zero_le _
 ·obtain ⟨_,h2,_⟩ := h.2 h0;apply Nat.le_of_not_lt;intro hlt;have : 2 ^ m ≤ 2 ^ (L - 1) := Nat.pow_le_pow_right (by decide) zO;omega
theorem zHG (q : List Int) (hq : Digs q) (i t : Nat) (hi : i / 16 < q.length) (hv : valD q = 2 ^ (i + 1) * t) : ∃ a : Nat,q.getD (i / 16) 0 = (a : Int) ∧ a + 2 ^ (i % 16) < 65536 ∧ Go.bits .or .u64 (a : Int) (shl .u64 1 ((i % 16 : Nat) : Int)) = ((a + 2 ^ (i % 16) : Nat) : Int) ∧
  valD (q.set (i / 16) ((a + 2 ^ (i % 16) : Nat) : Int)) = 2 ^ i * (2 * t + 1) := by
 obtain ⟨a,ga,ha2,hd,_⟩ := zYy q (i / 16) hq;have hrl : i % 16 < 16 := Nat.mod_lt _ (by decide)
 have hsplit : valD q = valD (q.take (i / 16)) + 65536 ^ (i / 16) * valD (q.drop (i / 16)) := by
  have := zXm (q.take (i / 16)) (q.drop (i / 16));rw [List.take_append_drop,List.length_take,Nat.min_eq_left (Nat.le_of_lt hi)] at this;exact this
 have hlow := zXP hq (i / 16);have hi2 : i + 1 = 16 * (i / 16) + (i % 16 + 1) := by omega
 have hmul : valD q / 65536 ^ (i / 16) = 2 ^ (i % 16 + 1) * t := by
  rw [hv,hi2,Nat.pow_add,← zXr,Nat.mul_assoc,Nat.mul_div_cancel_left _ (zKw _)]
 rw [hsplit,Nat.add_mul_div_left _ _ (zKw _),Nat.div_eq_of_lt hlow,Nat.zero_add,hd] at hmul;obtain ⟨j,hj⟩ : ∃ j,16 = i % 16 + 1 + j := ⟨16 - (i % 16 + 1),by omega⟩;have e16 : (65536 : Nat) = 2 ^ (i % 16 + 1) * 2 ^ j := by rw [← Nat.pow_add,← hj]
 have hamod : a % 2 ^ (i % 16 + 1) = 0 := by
  (have h1 : (a + 65536 * valD (q.drop (i / 16 + 1))) % 2 ^ (i % 16 + 1) = 0 := by rw [hmul,Nat.mul_mod_right]);rw [e16,Nat.mul_assoc,Nat.add_mul_mod_self_left] at h1;exact h1
 obtain ⟨s,hs⟩ : ∃ s,a = 2 ^ (i % 16 + 1) * s := ⟨a / 2 ^ (i % 16 + 1),by
  have := Nat.div_add_mod a (2 ^ (i % 16 + 1));rw [hamod,Nat.add_zero] at this
  exact this.symm⟩
 have hp2 : 2 ^ (i % 16) < 2 ^ (i % 16 + 1) := Nat.pow_lt_pow_right (by decide) zO
 have hbound : a + 2 ^ (i % 16) < 65536 := by
  have h1 : s < 2 ^ j := by
   rw [hs,e16] at ha2;exact Nat.lt_of_mul_lt_mul_left ha2
  have h2 : 2 ^ (i % 16 + 1) * (s + 1) ≤ 2 ^ (i % 16 + 1) * 2 ^ j := Nat.mul_le_mul_left _ h1;rw [Nat.mul_succ,← e16,← hs] at h2;omega
 have hp3 : 2 ^ (i % 16) < 65536 := by omega
 have hsh : shl .u64 1 ((i % 16 : Nat) : Int) = ((2 ^ (i % 16) : Nat) : Int) := by
  have h9 := zJH 1 (i % 16) zO;rw [Nat.one_mul,Nat.mod_eq_of_lt (Nat.lt_of_lt_of_le hp3 (by decide))] at h9;exact h9
 refine ⟨a,ga,hbound,?_,?_⟩
 ·rw [hsh,zYS _ _ zO zO,hs,or_bit]
 ·have := zWg q (i / 16) (a + 2 ^ (i % 16)) hi a ga;rw [Nat.mul_add,hv] at this
  have e : 65536 ^ (i / 16) * 2 ^ (i % 16) = 2 ^ i := by
   rw [zXr,← Nat.pow_add]
   congr 1
   omega
  rw [e] at this;(have e2 : 2 ^ (i + 1) * t = 2 ^ i * (2 * t) := by rw [Nat.pow_succ,Nat.mul_assoc]);rw [e2] at this;rw [Nat.mul_succ];omega
theorem zWx (l b : List Int) (hp : Digs l) (hb : Digs b) (hb0 : valD b ≠ 0) (hl : l.length ≤ 100000) (hbl : b.length ≤ 100000) : ∀ (i : Nat) (q : List Int) (r t : Nat),i ≤ 16 * l.length → q.length = l.length → Digs q → valD q = 2 ^ i * t → valD l / 2 ^ i = t * valD b + r → r < valD b →
  Ev (fun k => r1_Divide.l0 k l b q (toD r) ((i : Int) - 1)) (toD (valD l / valD b),toD (valD l % valD b))
 | 0,q,r,t,hi,hql,hq,hv,hdiv,hr => by
  rw [Nat.pow_zero,Nat.div_one] at hdiv;rw [Nat.pow_zero,Nat.one_mul] at hv;have hpos : 0 < valD b := Nat.pos_of_ne_zero hb0;(have e1 : valD l / valD b = t := by rw [hdiv,Nat.mul_comm t,Nat.mul_add_div hpos,Nat.div_eq_of_lt hr,Nat.add_zero]);(have e2 : valD l % valD b = r := by rw [hdiv,Nat.mul_comm t,Nat.mul_add_mod,Nat.mod_eq_of_lt hr]);rw [e1,e2];have ht := zYE q hq zO;rw [hv] at ht;refine Ev.step (fun k => ?_) (Ev.bind (f := fun _ u => some (u,toD r)) ht (Ev.now _));rw [r1_Divide.l0,if_neg zO]
 | i + 1,q,r,t,hi,hql,hq,hv,hdiv,hr => by
  have hrl : (toD r).length ≤ b.length := zKp _ _ (Nat.lt_trans hr (zYB hb));have hup := zKQ (toD r) (zQJ r) 1 zO;rw [zQN,Nat.pow_one] at hup;have hbit := zKj l hp i zO;obtain ⟨c,hc⟩ : ∃ c,c = valD l / 2 ^ i % 2 := ⟨_,rfl⟩;rw [← hc] at hbit;(have hc2 : c < 2 := by rw [hc];exact Nat.mod_lt _ (by decide));have hone : Digs [(c : Int)] := zXX zO
  have h2l : (toD (r * 2)).length ≤ b.length + 1 := by
   refine zKp _ _ ?_
   rw [Nat.pow_succ];exact Nat.mul_lt_mul_of_lt_of_le (Nat.lt_trans hr (zYB hb)) (by decide) (by decide)
  have hsum := zJK (toD (r * 2)) [(c : Int)] (zQJ _) hone zO (show 1 ≤ 900000 by decide);(have hvone : valD [(c : Int)] = c := by simp [valD]);rw [zQN,hvone] at hsum
  have h3l : (toD (r * 2 + c)).length ≤ b.length + 1 := by
   refine zKp _ _ ?_
   rw [Nat.pow_succ];have h1 := Nat.lt_trans hr (zYB hb);have h2 : (r + 1) * 2 ≤ 65536 ^ b.length * 65536 := Nat.mul_le_mul h1 (by decide);omega
  obtain ⟨o,ho,ho1⟩ := zJO (toD (r * 2 + c)) b (zQJ _) hb zO zO;rw [zQN] at ho1
  have hdiv2 : valD l / 2 ^ i = 2 * (t * valD b + r) + c := by
   (have h1 : valD l / 2 ^ i / 2 = valD l / 2 ^ (i + 1) := by rw [Nat.div_div_eq_div_mul,Nat.pow_succ]);rw [hdiv] at h1;omega
  (have hk : ((i + 1 : Nat) : Int) - 1 = (i : Int) := by omega);have hwi : wrap64 ((i : Int) - 1) = (i : Int) - 1 := wrapB _ zO zO;(have hq16 : wrap64 (Int.tdiv (i : Int) 16) = ((i / 16 : Nat) : Int) := by rw [Int.tdiv_eq_ediv_of_nonneg zO,wrapB _ zO zO];omega);(have hr16 : IntKind.u64.wrap (Int.tmod (i : Int) 16) = ((i % 16 : Nat) : Int) := by rw [Int.tmod_eq_emod_of_nonneg zO,show ((i : Int) % 16) = ((i % 16 : Nat) : Int) by omega,u64_in _ zO]);(have hin : i / 16 < q.length := by rw [hql];exact Nat.div_lt_of_lt_mul zO);by_cases hge : o ≥ 0
  ·have hle := ho1.1 hge;have hmin := zVn (toD (r * 2 + c)) b (zQJ _) hb zO (by rw [zQN];exact hle);rw [zQN] at hmin;obtain ⟨a,ga,ha2,hor,hval⟩ := zHG q hq i t hin hv
   have ih := zWx l b hp hb hb0 hl hbl i (q.set (i / 16) ((a + 2 ^ (i % 16) : Nat) : Int)) (r * 2 + c - valD b) (2 * t + 1) zO (by rw [List.length_set];exact hql) (zWy hq _ ⟨Int.natCast_nonneg _,Int.ofNat_lt.2 ha2⟩) hval
    (by rw [hdiv2,Nat.add_mul,Nat.one_mul,Nat.mul_assoc];omega) zO
   have q2 : (0 : Int) ≤ ((i / 16 : Nat) : Int) := Int.natCast_nonneg _
   have q3 : ((i / 16 : Nat) : Int) < ((q.length : Nat) : Int) := Int.ofNat_lt.2 hin
   have q4 : (0 : Int) ≤ ((i % 16 : Nat) : Int) := Int.natCast_nonneg _
   have q5 : (0 : Int) ≤ ((i : Nat) : Int) := Int.natCast_nonneg _
   refine Ev.step (fun k => ?_) (Ev.bind hup (f := fun k t567 => (r1_Sum.f k t567 [(c : Int)]).bind fun t574 => (r1_Cmp.f k t574 b).bind fun t577 => if t577 ≥ 0 then ((r1_Minus.f k t574 b).bind fun t578 => r1_Divide.l0 k l b (q.set (i / 16) ((a + 2 ^ (i % 16) : Nat) : Int)) t578 ((i : Int) - 1)) else r1_Divide.l0 k l b q t574 ((i : Int) - 1))
    (Ev.bind hsum (Ev.bind ho (Ev.congr (fun k => if_pos hge) (Ev.bind hmin (f := fun k t578 => r1_Divide.l0 k l b (q.set (i / 16) ((a + 2 ^ (i % 16) : Nat) : Int)) t578 ((i : Int) - 1)) ih)))))
   rw [hk,r1_Divide.l0,if_pos q5,hbit,hwi,hq16,hr16];simp only [Option.bind_some,if_pos q2,if_pos q3,if_pos q4,Int.toNat_natCast,zYe,ga,hor]
   rfl
  ·have hlt : r * 2 + c < valD b := by
    apply Nat.lt_of_not_le;intro hle;exact hge (ho1.2 hle)
   have ih := zWx l b hp hb hb0 hl hbl i q (r * 2 + c) (2 * t) zO hql hq (by rw [hv,Nat.pow_succ,Nat.mul_assoc])
    (by rw [hdiv2,Nat.mul_assoc];omega) hlt
   have q5 : (0 : Int) ≤ ((i : Nat) : Int) := Int.natCast_nonneg _
   refine Ev.step (fun k => ?_) (Ev.bind hup (f := fun k t567 => (r1_Sum.f k t567 [(c : Int)]).bind fun t574 => (r1_Cmp.f k t574 b).bind fun t577 => if t577 ≥ 0 then ((r1_Minus.f k t574 b).bind fun t578 => if 0 ≤ ((i / 16 : Nat) : Int) then (if ((i / 16 : Nat) : Int) < ((q.length : Nat) : Int) then (if 0 ≤ ((i % 16 : Nat) : Int) then r1_Divide.l0 k l b (q.set ((i / 16 : Nat) : Int).toNat (Go.bits .or .u64 (rd q ((i / 16 : Nat) : Int)) (shl .u64 1 ((i % 16 : Nat) : Int)))) t578 ((i : Int) - 1) else none) else none) else none) else r1_Divide.l0 k l b q t574 ((i : Int) - 1))
    (Ev.bind hsum (Ev.bind ho (Ev.congr (fun k => if_neg hge) ih))))
   rw [hk,r1_Divide.l0,if_pos q5,hbit,hwi,hq16,hr16];simp only [Option.bind_some]
   rfl
theorem zWq (l b : List Int) (hp : Digs l) (hb : Digs b) (hb0 : valD b ≠ 0) (hl : l.length ≤ 100000) (hbl : b.length ≤ 100000) : Ev (fun k => r1_Divide.f k l b) (toD (valD l / valD b),toD (valD l % valD b)) := by
 obtain ⟨L,h1,h2,h3⟩ := zZz l hp zO;have hlt := zGH h2;have hz : valD l / 2 ^ L = 0 := Nat.div_eq_of_lt hlt;have h := zWx l b hp hb hb0 hl hbl L (List.replicate l.length 0) 0 0 h1 (List.length_replicate ..) (zZv _) (by rw [zZf,Nat.mul_zero]) (by rw [hz,Nat.zero_mul]) (Nat.pos_of_ne_zero hb0);rw [zXf] at h
 have q1 : (0 : Int) ≤ ((l.length : Nat) : Int) := Int.natCast_nonneg _
 refine Ev.congr (fun k => ?_) (Ev.bind h3 (f := fun k t => r1_Divide.l0 k l b (List.replicate l.length 0) [] (wrap64 (t - 1))) (Ev.congr (fun k => by rw [wrapB _ zO zO]) h));unfold r1_Divide.f;rw [if_pos q1,Int.toNat_natCast,if_pos zO]
theorem zKW (l m : List Int) (hp : Digs l) (hm : Digs m) : ∀ i : Nat,i ≤ 900000 → ∃ c : Int,Ev (fun k => r1_Cmp.l0 k l m ((i : Int) - 1)) c ∧ (c < 0 ↔ valD (l.take i) < valD (m.take i)) ∧ (c = 0 ↔ valD (l.take i) = valD (m.take i))
 | 0,_ => by
  refine ⟨0,Ev.step (f := fun _ => some 0) (fun k => ?_) (Ev.now _),by simp [valD],by simp [valD]⟩;rw [r1_Cmp.l0,if_neg zO]
 | i + 1,hi => by
  obtain ⟨a,ga,ha2,ha3⟩ := getDD hp i;obtain ⟨b,gb,hb2,hb3⟩ := getDD hm i
  have tk : ∀ (l : List Int) (a : Nat),l.getD i 0 = (a : Int) → (l.length ≤ i → a = 0) → valD (l.take (i + 1)) = valD (l.take i) + 65536 ^ i * a := by
   intro l a g g0;by_cases h : i < l.length
   ·rw [zYL h,g,Int.toNat_natCast]
   ·rw [List.take_of_length_le zO,List.take_of_length_le zO,g0 zO,Nat.mul_zero,Nat.add_zero]
  have e1 := tk l a ga ha3;have e2 := tk m b gb hb3;have t1 := zXP hp i;have t2 := zXP hm i;(have hk : ((i + 1 : Nat) : Int) - 1 = (i : Int) := by omega);rw [hk,e1,e2];obtain ⟨P,hP⟩ : ∃ P,P = 65536 ^ i := ⟨_,rfl⟩;rw [← hP] at t1 t2 ⊢;by_cases hlt : a < b
  ·refine ⟨-1,Ev.step (f := fun _ => some (-1)) (fun k => ?_) (Ev.now _),?_⟩
   ·rw [r1_Cmp.l0,if_pos zO,zXI,Option.bind_some,zXI,Option.bind_some,ga,gb,if_pos zO]
   ·have : P * (a + 1) ≤ P * b := Nat.mul_le_mul_left _ hlt;rw [Nat.mul_succ] at this;constructor <;> omega
  ·by_cases hgt : b < a
   ·refine ⟨1,Ev.step (f := fun _ => some 1) (fun k => ?_) (Ev.now _),?_⟩
    ·rw [r1_Cmp.l0,if_pos zO,zXI,Option.bind_some,zXI,Option.bind_some,ga,gb,if_neg zO];simp only [Option.bind_some];rw [if_pos zO]
    ·have : P * (b + 1) ≤ P * a := Nat.mul_le_mul_left _ hgt;rw [Nat.mul_succ] at this;constructor <;> omega
   ·(obtain rfl : a = b := by omega);obtain ⟨c,hc,c1,c2⟩ := zKW l m hp hm i zO;refine ⟨c,Ev.step (fun k => ?_) hc,?_,?_⟩
    ·rw [r1_Cmp.l0,if_pos zO,zXI,Option.bind_some,zXI,Option.bind_some,ga,gb,if_neg zO];simp only [Option.bind_some];rw [if_neg zO,wrapB _ zO zO]
    ·rw [c1];omega
    ·rw [c2];omega
theorem zGw (l m : List Int) (hp : Digs l) (hm : Digs m) (hl : l.length ≤ 900000) (hml : m.length ≤ 900000) : ∃ c : Int,Ev (fun k => r1_Cmp.f k l m) c ∧ (c < 0 ↔ valD l < valD m) ∧ (c = 0 ↔ valD l = valD m) := by
 obtain ⟨c,hc,c1,c2⟩ := zKW l m hp hm (max l.length m.length) zO;rw [List.take_of_length_le zO,List.take_of_length_le zO] at c1 c2;refine ⟨c,Ev.congr (fun k => ?_) hc,c1,c2⟩;unfold r1_Cmp.f;rw [zZQ,Option.bind_some,wrapB _ zO zO]
theorem zGr (M : Nat) (hMM : M ≤ 100000) : ∀ (n a p : Nat),n ≤ 1000000 → 1 ≤ a → 1 ≤ p → a * p ^ (2 * n) < 2 ^ M → Ev (fun k => r5_Ten.l0 k (n : Int) (toD a) (toD p)) (toD (a * p ^ n)) := by
 intro n
 induction n using Nat.strongRecOn with
 | _ n ih =>
  intro a p hn ha hp hM;by_cases h0 : n = 0
  ·subst h0;rw [Nat.pow_zero,Nat.mul_one];refine Ev.step (f := fun _ => some (toD a)) (fun k => ?_) (Ev.now _);rw [r5_Ten.l0,if_neg zO]
  ·have hpp : p ≤ p ^ (2 * n) := by
    have := Nat.pow_le_pow_right hp (show 1 ≤ 2 * n by omega)
    rwa [Nat.pow_one] at this
   have hp1 : 1 ≤ p ^ (2 * n) := Nat.pow_pos hp;have haM : a < 2 ^ M := Nat.lt_of_le_of_lt (Nat.le_mul_of_pos_right _ hp1) hM;have hpM : p < 2 ^ M := Nat.lt_of_le_of_lt (Nat.le_trans hpp (Nat.le_mul_of_pos_left _ ha)) hM;have la := zXn haM;have lp := zXn hpM;have hsq := zYm (toD p) (toD p) (zQJ _) (zQJ _) zO zO;rw [zQN] at hsq;have hap := zYm (toD a) (toD p) (zQJ _) (zQJ _) zO zO;rw [zQN,zQN] at hap;(have hw : wrap64 (Int.tdiv (n : Int) 2) = ((n / 2 : Nat) : Int) := by rw [Int.tdiv_eq_ediv_of_nonneg zO,wrapB _ zO zO];omega);(have hm : Int.tmod (n : Int) 2 = ((n % 2 : Nat) : Int) := by rw [Int.tmod_eq_emod_of_nonneg zO];omega);(have hp2 : ∀ z,(p * p) ^ z = p ^ (2 * z) := fun z => by rw [Nat.pow_mul,Nat.pow_two]);by_cases ho : n % 2 = 1
   ·have g := ih (n / 2) zO (a * p) (p * p) zO (Nat.mul_pos ha hp) (Nat.mul_pos hp hp) (by
      rw [hp2,Nat.mul_assoc,← Nat.pow_succ']
      exact Nat.lt_of_le_of_lt (Nat.mul_le_mul_left _ (Nat.pow_le_pow_right hp zO)) hM)
    have e : a * p * (p * p) ^ (n / 2) = a * p ^ n := by
     rw [hp2,Nat.mul_assoc,← Nat.pow_succ']
     congr 2
     omega
    rw [e] at g;refine Ev.step (fun k => ?_) (Ev.bind hap (f := fun k t529 => (r1_Product.f k (toD p) (toD p)).bind fun t532 => r5_Ten.l0 k ((n / 2 : Nat) : Int) t529 t532) (Ev.bind hsq g));rw [r5_Ten.l0,if_pos zO,hm,if_pos (by rw [ho];rfl),hw]
   ·have ho' : ¬ ((n % 2 : Nat) : Int) = 1 := by omega
    have g := ih (n / 2) zO a (p * p) zO ha (Nat.mul_pos hp hp) (by
      rw [hp2]
      exact Nat.lt_of_le_of_lt (Nat.mul_le_mul_left _ (Nat.pow_le_pow_right hp zO)) hM)
    have e : a * (p * p) ^ (n / 2) = a * p ^ n := by
     rw [hp2]
     congr 2
     omega
    rw [e] at g;refine Ev.step (fun k => ?_) (Ev.bind hsq (f := fun k t535 => r5_Ten.l0 k ((n / 2 : Nat) : Int) (toD a) t535) g);rw [r5_Ten.l0,if_pos zO,hm,if_neg ho',hw]
theorem zKP (n : Nat) (hn : n ≤ 2000) : Ev (fun k => r5_Ten.f k (n : Int)) (toD (10 ^ n)) := by
 have h := zGr (4 * (2 * n) + 1) zO n 1 10 zO (by decide) (by decide) (by
  rw [Nat.one_mul]
  exact zYI (2 * n))
 rw [Nat.one_mul] at h;(have h1 : toD 1 = [1] := by rw [zYa (by decide)];show (1 : Int) :: toD 0 = [1];rw [zXf]);(have h10 : toD 10 = [10] := by rw [zYa (by decide)];show (10 : Int) :: toD 0 = [10];rw [zXf]);rw [h1,h10] at h;exact h
theorem zKJ (s : ByteArray) (hs : zXM s) (hsz : s.size ≤ 1000) : ∀ d i : Nat,i + d = s.size → Ev (fun k => r5_Whole.l0 k s (toD (dval s i)) (i : Int)) (toD (dval s s.size))
 | 0,i,hi => by
  (obtain rfl : i = s.size := by omega);refine Ev.step (f := fun _ => some (toD (dval s s.size))) (fun k => ?_) (Ev.now _);rw [r5_Whole.l0,if_neg zO]
 | d + 1,i,hi => by
  have ih := zKJ s hs hsz d (i + 1) zO;have hb := hs i zO;have hlt : dval s i < 2 ^ (4 * i + 1) := Nat.lt_trans (zJU s hs i zO) (zYI i);(have hlt2 : dval s i * 10 < 2 ^ (4 * i + 1 + 4) := by rw [Nat.pow_add];exact Nat.mul_lt_mul_of_lt_of_le hlt (by decide) (by decide));have l1 := zXn hlt;have l2 := zXn hlt2;have hten : Digs [(10 : Int)] := zXX zO;have hdig : Digs [((bt s (i : Int) - 48).toNat : Int)] := zXX zO;have hpr := zYm (toD (dval s i)) [10] (zQJ _) hten zO (show 1 ≤ 400000 by decide);rw [zQN,show valD [(10 : Int)] = 10 from rfl] at hpr;have hsu := zJK (toD (dval s i * 10)) [((bt s (i : Int) - 48).toNat : Int)] (zQJ _) hdig zO (show 1 ≤ 900000 by decide);rw [zQN,show valD [((bt s (i : Int) - 48).toNat : Int)] = (bt s (i : Int) - 48).toNat by rw [valD,valD,Int.toNat_natCast,Nat.mul_zero,Nat.add_zero]] at hsu;(have hbt : (bt s (i : Int) - 48) % 256 = (((bt s (i : Int) - 48).toNat : Nat) : Int) := by omega);refine Ev.step (fun k => ?_) (Ev.bind hpr (f := fun k t463 => (r1_Sum.f k t463 [((bt s (i : Int) - 48).toNat : Int)]).bind fun t469 => r5_Whole.l0 k s t469 ((i + 1 : Nat) : Int)) (Ev.bind hsu ih));rw [r5_Whole.l0,if_pos zO,hbt,zYx i zO]
  have q : (0 : Int) ≤ (i : Int) := Int.natCast_nonneg _
  simp only [if_pos q]
theorem zGo (s : ByteArray) (hs : zXM s) (hsz : s.size ≤ 1000) : Ev (fun k => r5_Whole.f k s) (toD (dval s s.size)) := by
 have h := zKJ s hs hsz s.size 0 zO;have e0 : dval s 0 = 0 := rfl;rw [e0,zXf] at h;exact h
theorem zZy : r1_Sign.f false = some 0 := rfl
theorem zKs : r1_Infinite.f false = some ((INF : Nat) : Int) := by kernel_rfl
theorem zGu (e : Int) (j R : Nat) (hj : (j : Int) = e + 1074) (hb : j ≤ 100000) (hR : R ≤ 9007199254740992) (h2 : j = 0 ∨ 4503599627370496 ≤ R) :
  Ev (fun k => r1_Round.j4 k false e (R : Int)) ((min (j * 4503599627370496 + R) INF : Nat) : Int) := by
 have hj5 : ∀ (e' : Int) (j' R' : Nat),(j' : Int) = e' + 1074 → j' ≤ 100001 → R' < 9007199254740992 → (j' = 0 ∨ 4503599627370496 ≤ R') → Ev (fun k => r1_Round.j5 k false e' (R' : Int)) ((min (j' * 4503599627370496 + R') INF : Nat) : Int) := by
  intro e' j' R' hj' hb' hR' h2';refine Ev.step (f := fun _ => some ((min (j' * 4503599627370496 + R') INF : Nat) : Int)) (fun k => ?_) (Ev.now _);rw [r1_Round.j5];by_cases ho : e' > 971
  ·rw [if_pos ho,zKs,Option.bind_some];unfold INF;rw [Nat.min_eq_right zO]
  ·rw [if_neg ho];by_cases hs : R' < 4503599627370496
   ·(obtain rfl : j' = 0 := by omega);rw [if_pos zO,zZy,Option.bind_some,zJk _ zO,Nat.zero_mul,Nat.zero_add];unfold INF;rw [Nat.min_eq_left zO]
   ·rw [if_neg zO,zZy,Option.bind_some,wrapB _ zO zO];(have h1 : IntKind.u64.wrap (e' + 1075) = ((j' + 1 : Nat) : Int) := by rw [show (e' + 1075) = ((j' + 1 : Nat) : Int) by omega,u64_in _ zO]);(have h3 : IntKind.u64.wrap (((j' + 1 : Nat) : Int) * 4503599627370496) = (((j' + 1) * 4503599627370496 : Nat) : Int) := by rw [show (((j' + 1 : Nat) : Int) * 4503599627370496) = (((j' + 1) * 4503599627370496 : Nat) : Int) by omega,u64_in _ zO]);(have h4 : IntKind.u64.wrap ((R' : Int) - 4503599627370496) = ((R' - 4503599627370496 : Nat) : Int) := by rw [show ((R' : Int) - 4503599627370496) = ((R' - 4503599627370496 : Nat) : Int) by omega,u64_in _ zO]);rw [h1,h3,h4,zJk _ zO,zHM _ _ zO zO];unfold INF;rw [Nat.min_eq_left zO];exact congrArg (fun z : Nat => some (z : Int)) zO
 by_cases hbig : R = 9007199254740992
 ·subst hbig;have g := hj5 (e + 1) (j + 1) 4503599627370496 zO zO (by decide) (.inr (by decide));rw [show (j + 1) * 4503599627370496 + 4503599627370496 = j * 4503599627370496 + 9007199254740992 by omega] at g;refine Ev.step (fun k => ?_) g;rw [r1_Round.j4,if_pos (by rfl),wrapB _ zO zO]
  rfl
 ·have g := hj5 e j R hj zO zO h2;refine Ev.step (fun k => ?_) g;rw [r1_Round.j4,if_neg zO]
def rnd2 (y : Nat) (lost : Bool) : Nat := if 2 < y % 4 ∨ (y % 4 = 2 ∧ (lost = true ∨ y / 4 % 2 = 1)) then y / 4 + 1 else y / 4
theorem zGt (y : Nat) (lost : Bool) (e : Int) (j : Nat) (hy : y < 36028797018963968) (hj : (j : Int) = e + 1074) (hb : j ≤ 100000) (h2 : j = 0 ∨ 4503599627370496 ≤ y / 4) :
  Ev (fun k => r1_Round.j2 k false e (toD y) lost) ((min (j * 4503599627370496 + rnd2 y lost) INF : Nat) : Int) := by
 have hs := zWP y zO
 have hlow : Go.bits .and .u64 (y : Int) 3 = ((y % 4 : Nat) : Int) := by
  have := zYY y 3 zO (by decide);rw [show (3 : Nat) = 2 ^ 2 - 1 from rfl,Nat.and_two_pow_sub_one_eq_mod] at this;exact this
 (have hq : ((y : Int) / 4) = ((y / 4 : Nat) : Int) := by omega);have hmod : Int.tmod ((y / 4 : Nat) : Int) 2 = ((y / 4 % 2 : Nat) : Int) := by rw [Int.tmod_eq_emod_of_nonneg zO];omega
 have hj3 : ∀ (z : Bool),Ev (fun k => r1_Round.j3 k false e ((y / 4 : Nat) : Int) z) ((min (j * 4503599627370496 + (if z = true then y / 4 + 1 else y / 4)) INF : Nat) : Int) := by
  intro z;have g := zGu e j (if z = true then y / 4 + 1 else y / 4) hj hb (by split <;> omega) (by split <;> omega);refine Ev.step (fun k => ?_) g;rw [r1_Round.j3]
  cases z with
  | true => rw [if_pos rfl,if_pos rfl,show (((y / 4 : Nat) : Int) + 1) = ((y / 4 + 1 : Nat) : Int) by omega,u64_in _ zO]
  | false => rw [if_neg (by decide),if_neg (by decide)]
 have hgo : ∀ z : Bool,(z = true ↔ (2 < y % 4 ∨ (y % 4 = 2 ∧ (lost = true ∨ y / 4 % 2 = 1)))) → (if z = true then y / 4 + 1 else y / 4) = rnd2 y lost := by
  intro z hz;unfold rnd2
  cases z with
  | true => rw [if_pos rfl,if_pos (hz.1 rfl)]
  | false => rw [if_neg (by decide),if_neg (fun c => by have := hz.2 c;cases this)]
 by_cases c1 : 2 < y % 4
 ·have g := hj3 true;rw [hgo true ⟨fun _ => .inl c1,fun _ => rfl⟩] at g;refine Ev.step (fun k => ?_) g;rw [r1_Round.j2,hs,Option.bind_some,Option.bind_some,hlow,if_pos zO,hq]
 ·by_cases c2 : y % 4 = 2
  ·cases lost with
   | true =>
    have g := hj3 true;rw [hgo true ⟨fun _ => .inr ⟨c2,.inl rfl⟩,fun _ => rfl⟩] at g;refine Ev.step (fun k => ?_) g;rw [r1_Round.j2,hs,Option.bind_some,Option.bind_some,hlow,if_neg zO,if_pos zO,if_pos rfl,hq]
   | false =>
    have g := hj3 (((y / 4 % 2 : Nat) : Int) == 1)
    rw [hgo _ ⟨fun h => .inr ⟨c2,.inr (by have := beq_iff_eq.1 h;omega)⟩,fun h => beq_iff_eq.2 (by
     rcases h with h | h
     ·omega
     ·rcases h.2 with h3 | h3
      ·cases h3
      ·omega)⟩] at g
    refine Ev.step (fun k => ?_) g;rw [r1_Round.j2,hs,Option.bind_some,Option.bind_some,hlow,if_neg zO,if_pos zO,if_neg (by decide),hq,hmod]
  ·have g := hj3 false;rw [hgo false ⟨(fun h => by cases h),(fun h => by omega)⟩] at g;refine Ev.step (fun k => ?_) g;rw [r1_Round.j2,hs,Option.bind_some,Option.bind_some,hlow,if_neg zO,if_neg zO,hq]
theorem zZW {A B P M y R j : Nat} (hB : 0 < B) (hP : 0 < P) (hM : 0 < M) (hK : K * (M * 2 ^ 2) = 2 ^ (j + 1) * P) (hA : A * P = y * (B * M) + R) (hR : R < B * M) (h1 : y / 4 < 9007199254740992) (h2 : j = 0 ∨ 4503599627370496 ≤ y / 4) (lost : Bool) (hl : lost = true ↔ 0 < R) :
  zXH A B (j * 4503599627370496 + rnd2 y lost) := by
 have h := zJV (n := 2) hB hP hM (by decide) hK hA hR h1 h2
 have e : rnd2 y lost = if 2 ^ (2 - 1) < y % 2 ^ 2 ∨ (y % 2 ^ 2 = 2 ^ (2 - 1) ∧ (0 < R ∨ y / 2 ^ 2 % 2 = 1)) then y / 2 ^ 2 + 1 else y / 2 ^ 2 := by
  unfold rnd2;simp only [hl]
 rw [e];exact h
theorem zVL {A B P M x R L : Nat} {e : Int} (hB : 0 < B) (hP : 0 < P) (hM : 0 < M) (hA : A * P = x * (B * M) + R) (hR : R < B * M) (hx : x < 2 ^ L) (he : L + e < -1100)
  (hK : ∀ n j : Nat,(j : Int) = e + n + 1074 → K * (M * 2 ^ n) = 2 ^ (j + 1) * P) : zXH A B 0 := by
 refine zWG ?_
 obtain ⟨n,hn⟩ : ∃ n : Nat,(n : Int) = -1074 - e := ⟨(-1074 - e).toNat,by omega⟩;have hKK := hK n 0 zO;rw [Nat.zero_add,Nat.pow_one] at hKK
 have c1 : A * P < 2 ^ L * (B * M) := by
  have := Nat.mul_le_mul_right (B * M) (show x + 1 ≤ 2 ^ L from hx);rw [Nat.add_mul,Nat.one_mul] at this;omega
 have c2 : A * P * (K * 2 ^ n) < 2 ^ L * (B * M) * (K * 2 ^ n) := Nat.mul_lt_mul_of_pos_right c1 (Nat.mul_pos K_pos (Nat.two_pow_pos n))
 have c3 : 2 ^ L * (B * M) * (K * 2 ^ n) = 2 ^ (L + 1) * B * P := by
  (have : 2 ^ L * (B * M) * (K * 2 ^ n) = 2 ^ L * B * (K * (M * 2 ^ n)) := by simp only [Nat.mul_assoc,Nat.mul_comm,Nat.mul_left_comm]);rw [this,hKK,Nat.pow_succ];simp only [Nat.mul_assoc,Nat.mul_comm,Nat.mul_left_comm]
 (have c4 : A * P * (K * 2 ^ n) = A * K * 2 ^ n * P := by simp only [Nat.mul_assoc,Nat.mul_comm,Nat.mul_left_comm]);rw [c3,c4] at c2;have c5 := Nat.lt_of_mul_lt_mul_right c2;have c6 : A * K * 2 ^ (L + 1) ≤ A * K * 2 ^ n := Nat.mul_le_mul_left _ (Nat.pow_le_pow_right (by decide) zO);have c7 : A * K * 2 ^ (L + 1) < 2 ^ (L + 1) * B := Nat.lt_of_le_of_lt c6 c5;rw [Nat.mul_comm _ (2 ^ (L + 1))] at c7;exact Nat.lt_of_mul_lt_mul_left c7
theorem zBi {A B P M x R : Nat} {e : Int} (m : Nat) (hm : m ≤ 20000) (hB : 0 < B) (hP : 0 < P) (hM : 0 < M) (hA : A * P = x * (B * M) + R) (hR : R < B * M) (hx : x ≠ 0) (hbig : R = 0 ∨ 2 ^ 60 ≤ x) (he : -8000 ≤ e) (he2 : e ≤ 8000) (hxl : x < 2 ^ m)
  (hK : ∀ n j : Nat,(j : Int) = e + n + 1074 → K * (M * 2 ^ n) = 2 ^ (j + 1) * P) :
  ∃ v,zXH A B v ∧ Ev (fun k => r1_Round.f k false e (toD x) (decide (0 < R))) ((min v INF : Nat) : Int) := by
 have hll := zXn hxl;obtain ⟨L,hL1,hL2,hL3⟩ := zZz (toD x) (zQJ x) zO;rw [zQN] at hL2;obtain ⟨g1,g2,g3⟩ := hL2.2 hx;have hL20 := zWt hL2 hxl
 have hstart : ∀ r : Int,Ev (fun k => r1_Round.j0 k false e (toD x) (decide (0 < R)) (L : Int) (decide ((wrap64 ((L : Int) + e)) < (-1100)))) r → Ev (fun k => r1_Round.f k false e (toD x) (decide (0 < R))) r := by
  intro r hr;refine Ev.congr (fun k => ?_) (Ev.bind hL3 (f := fun k t505 => if t505 = 0 then (if decide (0 < R) = true then (r1_Round.j0 k false e (toD x) (decide (0 < R)) t505 (decide ((wrap64 (t505 + e)) < (-1100)))) else (r1_Round.j0 k false e (toD x) (decide (0 < R)) t505 true)) else (r1_Round.j0 k false e (toD x) (decide (0 < R)) t505 (decide ((wrap64 (t505 + e)) < (-1100))))) (Ev.congr (fun k => if_neg zO) hr))
  rfl
 have hwL : wrap64 ((L : Int) + e) = (L : Int) + e := wrapB _ zO zO;rw [hwL] at hstart;by_cases hlow : (L : Int) + e < -1100
 ·refine ⟨0,zVL hB hP hM hA hR g3 hlow hK,hstart _ ?_⟩;refine Ev.step (f := fun _ => some ((min 0 INF : Nat) : Int)) (fun k => ?_) (Ev.now _);rw [r1_Round.j0,if_pos (decide_eq_true hlow),zZy,Option.bind_some,Nat.zero_min]
  rfl
 ·
  obtain ⟨drop,hd1,hd2,hd3⟩ : ∃ drop : Int,(L : Int) - 53 ≤ drop ∧ -1074 - e ≤ drop ∧ (drop = (L : Int) - 53 ∨ drop = -1074 - e) := by
   by_cases h : -1074 - e ≤ (L : Int) - 53
   ·exact ⟨(L : Int) - 53,by omega,h,.inl rfl⟩
   ·exact ⟨-1074 - e,by omega,by omega,.inr rfl⟩
  obtain ⟨j,hj⟩ : ∃ j : Nat,(j : Int) = e + drop + 1074 := ⟨(e + drop + 1074).toNat,by omega⟩
  obtain ⟨y,lost,hy,hj0,hnear,hrun⟩ : ∃ (y : Nat) (lost : Bool),y < 36028797018963968 ∧ (j = 0 ∨ 4503599627370496 ≤ y / 4) ∧ zXH A B (j * 4503599627370496 + rnd2 y lost) ∧
    (∀ r : Int,Ev (fun k => r1_Round.j2 k false (e + drop) (toD y) lost) r → Ev (fun k => r1_Round.j1 k false e (toD x) (decide (0 < R)) drop) r) := by
   have hwe : wrap64 (e + drop) = e + drop := wrapB _ zO zO;by_cases h2 : 2 ≤ drop
   ·obtain ⟨d,hd⟩ : ∃ d : Nat,(d : Int) = drop - 2 := ⟨(drop - 2).toNat,by omega⟩;have hBM : 0 < B * M := Nat.mul_pos hB hM;have hdm := Nat.div_add_mod x (2 ^ d);have hml := Nat.mod_lt x (Nat.two_pow_pos d)
    have hylt : x / 2 ^ d < 36028797018963968 := by
     rw [Nat.div_lt_iff_lt_mul (Nat.two_pow_pos d),show (36028797018963968 : Nat) = 2 ^ 55 from rfl,← Nat.pow_add];exact Nat.lt_of_lt_of_le g3 (Nat.pow_le_pow_right (by decide) zO)
    have hge : j = 0 ∨ 4503599627370496 ≤ x / 2 ^ d / 4 := by
     rcases hd3 with h | h
     ·refine .inr ?_
      have : 2 ^ 54 ≤ x / 2 ^ d := by
       rw [Nat.le_div_iff_mul_le (Nat.two_pow_pos d),← Nat.pow_add];exact Nat.le_trans (Nat.pow_le_pow_right (by decide) zO) g2
      omega
     ·exact .inl zO
    have hA' : A * P = x / 2 ^ d * (B * (M * 2 ^ d)) + (x % 2 ^ d * (B * M) + R) := by
     rw [hA,← Nat.add_assoc]
     congr 1
     rw [← Nat.mul_assoc B M,show x / 2 ^ d * (B * M * 2 ^ d) = 2 ^ d * (x / 2 ^ d) * (B * M) by simp only [Nat.mul_assoc,Nat.mul_comm,Nat.mul_left_comm],← Nat.add_mul,hdm]
    have hR' : x % 2 ^ d * (B * M) + R < B * (M * 2 ^ d) := by
     have h1 : (x % 2 ^ d + 1) * (B * M) ≤ 2 ^ d * (B * M) := Nat.mul_le_mul_right _ hml;rw [Nat.add_mul,Nat.one_mul] at h1;rw [← Nat.mul_assoc B M,Nat.mul_comm (B * M)];omega
    have hK' : K * (M * 2 ^ d * 2 ^ 2) = 2 ^ (j + 1) * P := by
     rw [Nat.mul_assoc M,← Nat.pow_add];exact hK (d + 2) j zO
    have hlost : (decide (0 < R) || decide (x % 2 ^ d ≠ 0)) = true ↔ 0 < x % 2 ^ d * (B * M) + R := by
     rw [Bool.or_eq_true,decide_eq_true_iff,decide_eq_true_iff];constructor
     ·rintro (h | h)
      ·omega
      ·have := Nat.mul_pos (Nat.pos_of_ne_zero h) hBM;omega
     ·intro h;by_cases h0 : 0 < R
      ·exact .inl h0
      ·refine .inr (fun hz => ?_);rw [hz,Nat.zero_mul] at h;omega
    refine ⟨x / 2 ^ d,(decide (0 < R) || decide (x % 2 ^ d ≠ 0)),hylt,hge,zZW hB hP (Nat.mul_pos hM (Nat.two_pow_pos d)) hK' hA' hR' zO hge _ hlost,fun r hr => ?_⟩;have hdn := zGv (toD x) (zQJ x) zO d zO;rw [zQN] at hdn;refine Ev.step (fun k => ?_) (Ev.bind hdn (f := fun k bt511 => if decide (0 < R) = true then (r1_Round.j2 k false (e + drop) bt511.1 true) else (r1_Round.j2 k false (e + drop) bt511.1 bt511.2)) ?_)
    ·rw [r1_Round.j1,if_pos h2,wrapB (drop - 2) zO zO,← hd,hwe]
    ·by_cases h0 : 0 < R
     ·rw [decide_eq_true h0,Bool.true_or] at hr;simp only [decide_eq_true h0,if_true];exact hr
     ·rw [decide_eq_false h0,Bool.false_or] at hr;simp only [decide_eq_false h0,Bool.false_eq_true,if_false];exact hr
   ·
    have hR0 : R = 0 := by
     rcases hbig with h | h
     ·exact h
     ·exfalso
      have : 2 ^ 60 < 2 ^ L := Nat.lt_of_le_of_lt h g3;have := (Nat.pow_lt_pow_iff_right (by decide : 1 < 2)).1 this;omega
    subst hR0;obtain ⟨s,hs⟩ : ∃ s : Nat,(s : Int) = 2 - drop := ⟨(2 - drop).toNat,by omega⟩
    have hylt : x * 2 ^ s < 36028797018963968 := by
     have h1 : x * 2 ^ s < 2 ^ L * 2 ^ s := Nat.mul_lt_mul_of_pos_right g3 (Nat.two_pow_pos s);rw [← Nat.pow_add] at h1;rw [show (36028797018963968 : Nat) = 2 ^ 55 from rfl];exact Nat.lt_of_lt_of_le h1 (Nat.pow_le_pow_right (by decide) zO)
    have hge : j = 0 ∨ 4503599627370496 ≤ x * 2 ^ s / 4 := by
     rcases hd3 with h | h
     ·refine .inr ?_
      have : 2 ^ 54 ≤ x * 2 ^ s := by
       have h1 : 2 ^ (L - 1) * 2 ^ s ≤ x * 2 ^ s := Nat.mul_le_mul_right _ g2;rw [← Nat.pow_add] at h1;exact Nat.le_trans (Nat.pow_le_pow_right (by decide) zO) h1
      omega
     ·exact .inl zO
    have hA' : A * (P * 2 ^ s) = x * 2 ^ s * (B * M) + 0 := by
     rw [← Nat.mul_assoc,hA,Nat.add_zero,Nat.add_zero];simp only [Nat.mul_assoc,Nat.mul_comm,Nat.mul_left_comm]
    have hK' : K * (M * 2 ^ 2) = 2 ^ (j + 1) * (P * 2 ^ s) := by
     have h1 := hK 2 (j + s) zO;rw [h1,show j + s + 1 = j + 1 + s by omega,Nat.pow_add];simp only [Nat.mul_assoc,Nat.mul_comm,Nat.mul_left_comm]
    refine ⟨x * 2 ^ s,false,hylt,hge,zZW hB (Nat.mul_pos hP (Nat.two_pow_pos s)) hM hK' hA' hR zO hge _ ⟨(fun h => by cases h),(fun h => by omega)⟩,fun r hr => ?_⟩;have hup := zKQ (toD x) (zQJ x) s zO;rw [zQN] at hup;refine Ev.step (fun k => ?_) (Ev.bind hup (f := fun k t515 => r1_Round.j2 k false (e + drop) t515 false) hr);rw [r1_Round.j1,if_neg zO,wrapB (2 - drop) zO zO,← hs,hwe]
    rfl
  refine ⟨_,hnear,hstart _ ?_⟩;by_cases hfar : (L : Int) + e > 1100
  ·have hinf : INF ≤ j * 4503599627370496 + rnd2 y lost := by
    unfold INF;omega
   rw [Nat.min_eq_right hinf];refine Ev.step (f := fun _ => some ((INF : Nat) : Int)) (fun k => ?_) (Ev.now _);rw [r1_Round.j0,if_neg (fun c => hlow (of_decide_eq_true c)),hwL,if_pos hfar,zKs,Option.bind_some]
  ·have ht := hrun _ (zGt y lost (e + drop) j hy zO zO hj0);have hw1 : wrap64 ((-1074) - e) = -1074 - e := wrapB _ zO zO;have hw2 : wrap64 ((L : Int) - 53) = (L : Int) - 53 := wrapB _ zO zO;refine Ev.step (fun k => ?_) ht;rw [r1_Round.j0,if_neg (fun c => hlow (of_decide_eq_true c)),hwL,if_neg hfar,hw1,hw2];by_cases hc : -1074 - e > (L : Int) - 53
   ·rw [if_pos hc,show -1074 - e = drop by omega]
   ·rw [if_neg hc,show (L : Int) - 53 = drop by omega]
theorem zJS (r : Nat) : decide (((toD r).length : Int) > 0) = decide (0 < r) := by
 by_cases h : r = 0
 ·subst h;rw [zXf];rfl
 ·rw [zYa h,List.length_cons,decide_eq_true zO,decide_eq_true zO]
theorem zGx {D t ld lt u : Nat} (hD : D ≠ 0) (ht : t ≠ 0) (hd : LenIs D ld) (hl : LenIs t lt) (h : lt + 61 ≤ ld + u) : 2 ^ 60 ≤ D * 2 ^ u / t := by
 obtain ⟨a1,a2,a3⟩ := hd.2 hD;obtain ⟨b1,b2,b3⟩ := hl.2 ht;rw [Nat.le_div_iff_mul_le (Nat.pos_of_ne_zero ht)];have h1 : 2 ^ 60 * t ≤ 2 ^ 60 * 2 ^ lt := Nat.mul_le_mul_left _ (Nat.le_of_lt b3);rw [← Nat.pow_add] at h1;have h2 : 2 ^ (60 + lt) ≤ 2 ^ (ld - 1 + u) := Nat.pow_le_pow_right (by decide) zO;rw [Nat.pow_add 2 (ld - 1)] at h2;have h3 : 2 ^ (ld - 1) * 2 ^ u ≤ D * 2 ^ u := Nat.mul_le_mul_right _ a2;omega
theorem zVD (s : ByteArray) (e : Int) (hs : zXM s) (hsz : s.size ≤ 400) (he : -100000 ≤ e) (he2 : e ≤ 100000) : ∃ w,zBE (dval s s.size) e w ∧ Ev (fun k => r5_Near.f k s e) ((w : Nat) : Int) := by
 have hwh := zGo s hs zO;have hD1 : dval s s.size < 2 ^ (4 * s.size + 1) := Nat.lt_trans (zJU s hs s.size (Nat.le_refl _)) (zYI s.size);obtain ⟨m,hm⟩ : ∃ m,m = 4 * s.size + 1 := ⟨_,rfl⟩;(have hD : dval s s.size < 2 ^ m := by rw [hm];exact hD1);(have hm2 : m ≤ 1601 := by omega);clear hm;obtain ⟨D,hDD⟩ : ∃ D,D = dval s s.size := ⟨_,rfl⟩;rw [← hDD] at hwh hD ⊢;clear hD1 hDD;have hlD := zXn hD
 have hgo : ∀ w : Int,Ev (fun k => if ((toD D).length : Int) = 0 then (r5_Near.j0 k (toD D) true s e) else (r5_Near.j0 k (toD D) (decide (e < (-1000))) s e)) w → Ev (fun k => r5_Near.f k s e) w := by
  intro w h;exact Ev.bind hwh (f := fun k t584 => if (t584.length : Int) = 0 then (r5_Near.j0 k t584 true s e) else (r5_Near.j0 k t584 (decide (e < (-1000))) s e)) h
 unfold zBE;by_cases h1 : D = 0 ∨ e < -1000
 ·refine ⟨0,by rw [if_pos h1],hgo _ ?_⟩;have hz : Ev (fun k => r5_Near.j0 k (toD D) true s e) ((0 : Nat) : Int) := Ev.step (f := fun _ => some 0) (fun k => by rw [r5_Near.j0,if_pos rfl]) (Ev.now _);by_cases h0 : ((toD D).length : Int) = 0
  ·simp only [if_pos h0];exact hz
  ·(have hD0 : D ≠ 0 := by intro h;rw [h,zXf] at h0;exact h0 rfl);have he3 : e < -1000 := h1.resolve_left hD0;simp only [if_neg h0,decide_eq_true he3];exact hz
 ·(have hD0 : D ≠ 0 := fun h => h1 (.inl h));(have he3 : ¬ e < -1000 := fun h => h1 (.inr h));(have hlen : ¬ ((toD D).length : Int) = 0 := by rw [zYa hD0,List.length_cons];omega);simp only [if_neg hlen,decide_eq_false he3] at hgo;by_cases h2 : 400 < e
  ·refine ⟨INF,by rw [if_neg h1,if_pos h2],hgo _ ?_⟩;refine Ev.step (f := fun _ => some ((INF : Nat) : Int)) (fun k => ?_) (Ev.now _);rw [r5_Near.j0,if_neg (by decide),if_pos h2,zKs,Option.bind_some]
  ·by_cases h3 : e ≥ 0
   ·obtain ⟨n,rfl⟩ := Int.eq_ofNat_of_zero_le h3;have hten := zKP n zO;have h10 := zYI n;have hlt := zXn h10;have hpr := zYm (toD D) (toD (10 ^ n)) (zQJ _) (zQJ _) zO zO;rw [zQN,zQN] at hpr
    have hx : D * 10 ^ n < 2 ^ (m + (4 * n + 1)) := by
     have : D * 10 ^ n < 2 ^ m * 2 ^ (4 * n + 1) := Nat.mul_lt_mul'' hD h10
     rwa [← Nat.pow_add] at this
    obtain ⟨v,hv,hve⟩ := zBi (m + (4 * n + 1)) zO (A := D * 10 ^ n) (B := 1) (P := 1) (M := 1) (x := D * 10 ^ n) (R := 0) (e := 0) (by decide) (by decide) (by decide) zO (by decide) (Nat.mul_ne_zero hD0 (Nat.ne_of_gt (Nat.pow_pos (by decide)))) (.inl rfl) (by decide) (by decide) hx
     (fun n' j hj => by have := zGk 0 0 0 n' j hj (by decide);rw [Nat.pow_zero] at this;exact this)
    refine ⟨min v INF,?_,hgo _ ?_⟩
    ·rw [if_neg h1,if_neg h2];refine ⟨v,?_,rfl⟩;unfold upN loN;rw [show (-(n : Int)).toNat = 0 by omega,Nat.pow_zero,Int.toNat_natCast];exact hv
    ·have hve : Ev (fun k => r1_Round.f k false 0 (toD (D * 10 ^ n)) false) ((min v INF : Nat) : Int) := hve;refine Ev.step (fun k => ?_) (Ev.bind hten (f := fun k t588 => (r1_Product.f k (toD D) t588).bind fun t591 => (r1_Round.f k false 0 t591 false).bind fun t594 => some t594) (Ev.bind hpr (Ev.bind hve (Ev.now _))));rw [r5_Near.j0,if_neg (by decide),if_neg h2,if_pos h3]
   ·obtain ⟨n,hn⟩ := Int.eq_ofNat_of_zero_le (show 0 ≤ -e by omega);have hten := zKP n zO;have h10 := zYI n;have hlt := zXn h10;have ht0 : 10 ^ n ≠ 0 := Nat.ne_of_gt (Nat.pow_pos (by decide));obtain ⟨lt,t1,t2,t3⟩ := zZz (toD (10 ^ n)) (zQJ _) zO;obtain ⟨ld,d1,d2,d3⟩ := zZz (toD D) (zQJ _) zO;rw [zQN] at t2 d2;have hlt2 := zWt t2 h10;have hld2 := zWt d2 hD
    have hrest : ∀ u : Nat,lt + 61 ≤ ld + u → u ≤ 6000 → ∃ v,zXH D (10 ^ n) v ∧ Ev (fun k => (r1_Up.f k (toD D) (u : Int)).bind fun t610 => ((r1_Divide.f k t610 (toD (10 ^ n))).bind fun bt613 => ((r1_Round.f k false (-(u : Int)) bt613.1 (decide ((bt613.2.length : Int) > 0))).bind fun t619 => (some t619)))) ((min v INF : Nat) : Int) := by
     intro u hu hu2;have hup := zKQ (toD D) (zQJ _) u zO;rw [zQN] at hup;(have hxu : D * 2 ^ u < 2 ^ (m + u) := by rw [Nat.pow_add];exact Nat.mul_lt_mul_of_pos_right hD (Nat.two_pow_pos u));have hlu := zXn hxu;have hdv := zWq (toD (D * 2 ^ u)) (toD (10 ^ n)) (zQJ _) (zQJ _) (by rw [zQN];exact ht0) zO zO;rw [zQN,zQN] at hdv;have hq := zGx hD0 ht0 d2 t2 hu
     obtain ⟨v,hv,hve⟩ := zBi (m + u) zO (A := D) (B := 10 ^ n) (P := 2 ^ u) (M := 1) (x := D * 2 ^ u / 10 ^ n) (R := D * 2 ^ u % 10 ^ n) (e := -(u : Int)) (Nat.pos_of_ne_zero ht0) (Nat.two_pow_pos u) (by decide)
      (by rw [Nat.mul_one,Nat.mul_comm (D * 2 ^ u / 10 ^ n)];exact (Nat.div_add_mod ..).symm) (by rw [Nat.mul_one];exact Nat.mod_lt _ (Nat.pos_of_ne_zero ht0)) (by
       have : 0 < 2 ^ 60 := Nat.two_pow_pos 60
       omega) (.inr hq) zO zO (Nat.lt_of_le_of_lt (Nat.div_le_self ..) hxu)
      (fun n' j hj => by have := zGk (-(u : Int)) u 0 n' j hj zO;rw [Nat.pow_zero] at this;exact this)
     refine ⟨v,hv,?_⟩;rw [← zJS] at hve;exact Ev.bind hup (Ev.bind hdv (f := fun k bt613 => (r1_Round.f k false (-(u : Int)) bt613.1 (decide ((bt613.2.length : Int) > 0))).bind fun t619 => (some t619)) (Ev.bind hve (Ev.now _)))
    have hw1 : wrap64 ((lt : Int) - (ld : Int)) = (lt : Int) - ld := wrapB _ zO zO;have hw2 : wrap64 ((lt : Int) - (ld : Int) + 70) = (lt : Int) - ld + 70 := wrapB _ zO zO;have hw0 : wrap64 (-e) = (n : Int) := by rw [wrapB _ zO zO];exact hn
    have hread : ∀ v,zXH D (10 ^ n) v → (if D = 0 ∨ e < -1000 then min v INF = 0 else if 400 < e then min v INF = INF else ∃ v',zXH (upN D e) (loN e) v' ∧ min v INF = min v' INF) := by
     intro v hv;rw [if_neg h1,if_neg h2];refine ⟨v,?_,rfl⟩;unfold upN loN;rw [show e.toNat = 0 by omega,show (-e).toNat = n by omega,Nat.pow_zero,Nat.mul_one];exact hv
    by_cases hneg : (lt : Int) - ld + 70 < 0
    ·obtain ⟨v,hv,hve⟩ := hrest 0 zO zO;refine ⟨min v INF,hread v hv,hgo _ ?_⟩
     refine Ev.step (fun k => ?_) (Ev.bind hten (f := fun k t595 => (r1_Len.f k t595).bind fun t598 => (r1_Len.f k (toD D)).bind fun t599 => (if (wrap64 ((wrap64 (t598 - t599)) + 70)) < 0 then ((r1_Up.f k (toD D) 0).bind fun t600 => ((r1_Divide.f k t600 t595).bind fun bt603 => ((r1_Round.f k false 0 bt603.1 (decide ((bt603.2.length : Int) > 0))).bind fun t609 => (some t609)))) else ((r1_Up.f k (toD D) (wrap64 ((wrap64 (t598 - t599)) + 70))).bind fun t610 => ((r1_Divide.f k t610 t595).bind fun bt613 => ((r1_Round.f k false (wrap64 (-(wrap64 ((wrap64 (t598 - t599)) + 70)))) bt613.1 (decide ((bt613.2.length : Int) > 0))).bind fun t619 => (some t619))))))
      (Ev.bind t3 (Ev.bind d3 (Ev.congr (fun k => by rw [hw1,hw2,if_pos hneg];rfl) hve))))
     rw [r5_Near.j0,if_neg (by decide),if_neg h2,if_neg h3,hw0]
    ·obtain ⟨u,hu⟩ := Int.eq_ofNat_of_zero_le (show 0 ≤ (lt : Int) - ld + 70 by omega);obtain ⟨v,hv,hve⟩ := hrest u zO zO;(have hw3 : wrap64 (-((lt : Int) - ld + 70)) = -(u : Int) := by rw [wrapB _ zO zO,hu]);refine ⟨min v INF,hread v hv,hgo _ ?_⟩
     refine Ev.step (fun k => ?_) (Ev.bind hten (f := fun k t595 => (r1_Len.f k t595).bind fun t598 => (r1_Len.f k (toD D)).bind fun t599 => (if (wrap64 ((wrap64 (t598 - t599)) + 70)) < 0 then ((r1_Up.f k (toD D) 0).bind fun t600 => ((r1_Divide.f k t600 t595).bind fun bt603 => ((r1_Round.f k false 0 bt603.1 (decide ((bt603.2.length : Int) > 0))).bind fun t609 => (some t609)))) else ((r1_Up.f k (toD D) (wrap64 ((wrap64 (t598 - t599)) + 70))).bind fun t610 => ((r1_Divide.f k t610 t595).bind fun bt613 => ((r1_Round.f k false (wrap64 (-(wrap64 ((wrap64 (t598 - t599)) + 70)))) bt613.1 (decide ((bt613.2.length : Int) > 0))).bind fun t619 => (some t619))))))
      (Ev.bind t3 (Ev.bind d3 (Ev.congr (fun k => by rw [hw1,hw2,if_neg hneg,hw3,hu]) hve))))
     rw [r5_Near.j0,if_neg (by decide),if_neg h2,if_neg h3,hw0]
end Go.Proofs.YtongfmeediokmaaGreatDoor.Pure
end
section
namespace Go.Proofs.YtongfmeediokmaaGreatDoor.Pure
open Go.RowKit YtongfmeediokmaaGreatDoor.Pr YtongfmeediokmaaGreatDoorW.PrintWords YtongfmeediokmaaGreatDoorW.PrintLast YtongfmeediokmaaGreatDoorW.PrintMore
def dg (x : Nat) : Int := ((48 + x % 10 : Nat) : Int)
def ds (x : Nat) : List Int := if x = 0 then [] else ds (x / 10) ++ [dg x]
termination_by x
decreasing_by omega
def dl : Nat → Nat → List Int
 | 0,_ => []
 | m + 1,x => dl m (x / 10) ++ [dg x]
def strip (x : Nat) : Nat := if x ≠ 0 ∧ x % 10 = 0 then strip (x / 10) else x
termination_by x
decreasing_by omega
theorem zYj : ds 0 = [] := by rw [ds];rfl
theorem zYg {x : Nat} (h : x ≠ 0) : ds x = ds (x / 10) ++ [dg x] := by rw [ds,if_neg h]
theorem zYU {x : Nat} (h : x ≠ 0) (h1 : x % 10 = 0) : strip x = strip (x / 10) := by rw [strip,if_pos ⟨h,h1⟩]
theorem zKb {x : Nat} (h1 : x % 10 ≠ 0) : strip x = x := by rw [strip,if_neg (fun h => h1 h.2)]
theorem zXd : ∀ (m x : Nat),(dl m x).length = m
 | 0,_ => rfl
 | m + 1,x => by rw [dl,List.length_append,zXd m];rfl
theorem dl_ds : ∀ (m x : Nat),10 ^ m ≤ x → x < 10 ^ (m + 1) → dl (m + 1) x = ds x
 | 0,x,h1,h2 => by
  rw [Nat.pow_zero] at h1;rw [Nat.pow_succ,Nat.pow_zero] at h2;rw [zYg zO,show x / 10 = 0 by omega,zYj,dl,dl]
 | m + 1,x,h1,h2 => by
  rw [Nat.pow_succ] at h1 h2;rw [dl,zYg (by have : 0 < 10 ^ m := Nat.pow_pos (by decide);omega),dl_ds m (x / 10) zO zO]
theorem zZS (n x : Nat) : ∀ j,dl (n + j) (x * 10 ^ j) = dl n x ++ List.replicate j 48
 | 0 => by rw [Nat.pow_zero,Nat.mul_one,List.replicate_zero,List.append_nil,Nat.add_zero]
 | j + 1 => by
  (have e1 : x * 10 ^ (j + 1) = 10 * (x * 10 ^ j) := by rw [Nat.pow_succ,← Nat.mul_assoc,Nat.mul_comm]);rw [← Nat.add_assoc,dl,e1,show 10 * (x * 10 ^ j) / 10 = x * 10 ^ j by omega,zZS n x j,List.replicate_succ',List.append_assoc];unfold dg;rw [show 10 * (x * 10 ^ j) % 10 = 0 by omega]
  rfl
theorem zVQ (i y t : Nat) (h : t ≤ 9) : dl (i + 1) (10 * y + t) = dl i y ++ [((48 + t : Nat) : Int)] := by
 rw [dl,show (10 * y + t) / 10 = y by omega];unfold dg;rw [show (10 * y + t) % 10 = t by omega]
theorem dg_in (x : Nat) : 48 ≤ dg x ∧ dg x ≤ 57 := by unfold dg;omega
theorem zVO : ∀ (m x : Nat),x < 10 ^ m → (ds x).length ≤ m
 | 0,x,h => by rw [Nat.pow_zero] at h;rw [show x = 0 by omega,zYj];exact Nat.le_refl _
 | m + 1,x,h => by
  by_cases h0 : x = 0
  ·rw [h0,zYj];exact Nat.zero_le _
  ·rw [Nat.pow_succ] at h;rw [zYg h0,List.length_append];have := zVO m (x / 10) zO;simp only [List.length_cons,List.length_nil];omega
theorem zJs {m x : Nat} (h1 : 10 ^ m ≤ x) (h2 : x < 10 ^ (m + 1)) : (ds x).length = m + 1 := by rw [← dl_ds m x h1 h2,zXd]
def nb (n : Int) : UInt8 := UInt8.ofNat n.toNat
theorem zKc (l : List Int) : (strOfNums l).data.toList = l.map nb := rfl
theorem zBh (l : List Int) (a : ByteArray) (h : a.data.toList = l.map nb) : a = strOfNums l := zZd (by unfold bytes;rw [h,zKc])
theorem zZx (l m : List Int) : strOfNums (l ++ m) = strOfNums l ++ strOfNums m := (zBh _ _ (by rw [show (strOfNums l ++ strOfNums m).data.toList = (strOfNums l).data.toList ++ (strOfNums m).data.toList from bytes_append _ _,zKc,zKc,List.map_append])).symm
theorem zYl (l : List Int) : (strOfNums l).size = l.length := by
 have h := zXC (strOfNums l);rw [show bytes (strOfNums l) = l.map nb from rfl,List.length_map] at h;exact h.symm
theorem nb_dg (x : Nat) : (nb (dg x) == 48) = decide (x % 10 = 0) := by
 unfold nb dg;rw [Int.toNat_natCast];have hx : x % 10 < 10 := Nat.mod_lt _ (by decide);generalize x % 10 = t at hx;(have ht : t = 0 ∨ t = 1 ∨ t = 2 ∨ t = 3 ∨ t = 4 ∨ t = 5 ∨ t = 6 ∨ t = 7 ∨ t = 8 ∨ t = 9 := by omega);rcases ht with rfl | rfl | rfl | rfl | rfl | rfl | rfl | rfl | rfl | rfl <;> decide
theorem zVf (l : List UInt8) (b c : UInt8) : Lib.trimRightB (l ++ [b]) c = if (b == c) = true then Lib.trimRightB l c else l ++ [b] := by
 unfold Lib.trimRightB;rw [List.reverse_append,List.reverse_singleton,List.singleton_append,List.dropWhile_cons];by_cases h : (b == c) = true
 ·rw [if_pos h,if_pos h]
 ·rw [if_neg h,if_neg h,List.reverse_cons,List.reverse_reverse]
theorem zVg : ∀ (n x : Nat),x ≤ n → Lib.trimRightB ((ds x).map nb) 48 = (ds (strip x)).map nb
 | 0,x,h => by rw [show x = 0 by omega,strip_zero',zYj];rfl
 | n + 1,x,h => by
  by_cases h0 : x = 0
  ·rw [h0,strip_zero',zYj];rfl
  ·rw [zYg h0,List.map_append,List.map_cons,List.map_nil,zVf,nb_dg];by_cases h1 : x % 10 = 0
   ·rw [if_pos (decide_eq_true h1),zVg n (x / 10) zO,zYU h0 h1]
   ·rw [if_neg (by rw [decide_eq_false h1];decide),zKb h1,zYg h0,List.map_append,List.map_cons,List.map_nil]
where strip_zero' : strip 0 = 0 := by rw [strip,if_neg (fun h => h.1 rfl)]
theorem zZY (x : Nat) : zBf (strOfNums (ds x)) 48 = strOfNums (ds (strip x)) := zBh _ _ (zVg x x (Nat.le_refl _))
theorem zWM : ∀ (n x : Nat),x ≤ n → x ≠ 0 → strip x ≠ 0 ∧ strip x % 10 ≠ 0 ∧ ∃ z,x = strip x * 10 ^ z
 | 0,x,h,h0 => absurd zO h0
 | n + 1,x,h,h0 => by
  by_cases h1 : x % 10 = 0
  ·obtain ⟨g1,g2,z,g3⟩ := zWM n (x / 10) zO zO;rw [zYU h0 h1];refine ⟨g1,g2,z + 1,?_⟩;rw [Nat.pow_succ,← Nat.mul_assoc,← g3];omega
  ·rw [zKb h1];exact ⟨h0,h1,0,by omega⟩
theorem set_mid {α : Type} (b v : α) (c : List α) : ∀ a : List α,(a ++ b :: c).set a.length v = a ++ v :: c
 | [] => rfl
 | x :: a => by rw [List.cons_append,List.length_cons,List.set_cons_succ,set_mid b v c a,List.cons_append]
theorem zVI (b : Int) (c : List Int) : ∀ a : List Int,(a ++ b :: c).getD a.length 0 = b
 | [] => rfl
 | x :: a => by rw [List.cons_append,List.length_cons,List.getD_cons_succ,zVI b c a]
theorem zJc (a : List Int) (b : Int) (c : List Int) (i : Nat) (h : a.length = i) : rd (a ++ b :: c) (i : Int) = b := by rw [zYe,← h,zVI]
theorem zWh (L : List Int) (e x6 : Int) (h : L.length ≤ 1000000) : Ev (fun k => dec_tidy.j1 k L e x6 false) (zBf (strOfNums L) 48,e) := by
 refine Ev.step (f := fun _ => some (zBf (strOfNums L) 48,e)) (fun k => ?_) (Ev.now _);rw [dec_tidy.j1,if_neg (by decide),strings_TrimRight.f,if_pos (by rw [zYl];omega),if_pos rfl,Option.bind_some]
theorem zWH (i : Nat) (h : i ≤ 1000000) : wrap64 (((i + 1 : Nat) : Int) - 1) = (i : Int) := by rw [wrapB _ zO zO];omega
theorem zVi : ∀ (i y t j : Nat) (e : Int),y < 10 ^ i → t ≤ 10 → 10 ^ (i + j) ≤ (10 * y + t) * 10 ^ j → i + j ≤ 1000 → -100000 ≤ e → e ≤ 100000 →
  Ev (fun k => dec_tidy.l0 k (dl i y ++ ((48 + t : Nat) : Int) :: List.replicate j 48) e (i : Int)) (strOfNums (ds (strip ((10 * y + t) * 10 ^ j))),if (10 * y + t) * 10 ^ j = 10 ^ (i + 1 + j) then e + 1 else e) := by
 intro i
 induction i with
 | zero =>
  intro y t j e hy ht hV hij he he2;rw [Nat.pow_zero] at hy;(obtain rfl : y = 0 := by omega);by_cases h9 : t ≤ 9
  ·have hVlt : (10 * 0 + t) * 10 ^ j < 10 ^ (0 + 1 + j) := by
    rw [show 0 + 1 + j = j + 1 by omega,Nat.pow_succ,Nat.mul_comm (10 ^ j) 10];exact Nat.mul_lt_mul_of_pos_right zO (Nat.pow_pos (by decide))
   rw [if_neg (Nat.ne_of_lt hVlt)]
   have hL : dl 0 0 ++ ((48 + t : Nat) : Int) :: List.replicate j 48 = ds ((10 * 0 + t) * 10 ^ j) := by
    have h1 := zZS 1 (10 * 0 + t) j;rw [zVQ 0 0 t h9,List.append_assoc] at h1;rw [← dl_ds j _ (by rw [Nat.zero_add] at hV;exact hV) (by rw [show j + 1 = 0 + 1 + j by omega];exact hVlt),Nat.add_comm j 1,h1]
    rfl
   have hend := zWh (dl 0 0 ++ ((48 + t : Nat) : Int) :: List.replicate j 48) e ((0 : Nat) : Int) (by simp only [List.length_append,List.length_cons,List.length_replicate,zXd];omega);rw [hL,zZY,← hL] at hend;refine Ev.step (fun k => ?_) hend;rw [dec_tidy.l0,if_pos zO,if_pos zO,if_pos (by simp only [List.length_append,List.length_cons,List.length_replicate,zXd];omega),zJc _ _ _ 0 rfl,decide_eq_false zO]
  ·(obtain rfl : t = 10 := by omega);(have hVe : (10 * 0 + 10) * 10 ^ j = 10 ^ (0 + 1 + j) := by rw [show 0 + 1 + j = j + 1 by omega,Nat.pow_succ,Nat.mul_comm (10 ^ j) 10]);rw [if_pos hVe]
   have hL : [49] ++ (48 :: List.replicate j 48) = ds ((10 * 0 + 10) * 10 ^ j) := by
    have h1 := zZS 1 1 (j + 1);rw [show (1 : Nat) * 10 ^ (j + 1) = (10 * 0 + 10) * 10 ^ j by rw [hVe,Nat.one_mul,show 0 + 1 + j = j + 1 by omega]] at h1;rw [← dl_ds (j + 1) _ (by rw [hVe,show 0 + 1 + j = j + 1 by omega];exact Nat.le_refl _) (by rw [hVe];exact Nat.pow_lt_pow_right (by decide) zO),Nat.add_comm (j + 1) 1,h1,List.replicate_succ]
    rfl
   have hend := zWh ([49] ++ (48 :: List.replicate j 48)) (e + 1) (-1) (by simp only [List.length_append,List.length_cons,List.length_replicate,List.length_nil];omega);rw [hL,zZY,← hL] at hend;refine Ev.step (f := fun k => dec_tidy.j1 k (dl 0 0 ++ ((48 + 10 : Nat) : Int) :: List.replicate j 48) e ((0 : Nat) : Int) true) (fun k => ?_) (Ev.step (f := fun k => dec_tidy.l0 k ([49] ++ (48 :: List.replicate j 48)) (e + 1) (-1)) (fun k => ?_) (Ev.step (f := fun k => dec_tidy.j1 k ([49] ++ (48 :: List.replicate j 48)) (e + 1) (-1) false) (fun k => ?_) hend))
   ·rw [dec_tidy.l0,if_pos zO,if_pos zO,if_pos (by simp only [List.length_append,List.length_cons,List.length_replicate,zXd];omega),zJc _ _ _ 0 rfl,decide_eq_true zO]
   ·rw [dec_tidy.j1,if_pos rfl,if_pos zO,if_pos (by simp only [List.length_append,List.length_cons,List.length_replicate,zXd];omega),Option.bind_some,if_neg zO,Option.bind_some,if_pos (by simp only [List.length_append,List.length_cons,List.length_replicate,zXd,List.length_set,List.length_nil];omega),wrapB _ zO zO,wrapB _ zO zO]
    rfl
   ·rw [dec_tidy.l0,if_neg zO]
 | succ i ih =>
  intro y t j e hy ht hV hij he he2;by_cases h9 : t ≤ 9
  ·have hVlt : (10 * y + t) * 10 ^ j < 10 ^ (i + 1 + 1 + j) := by
    rw [Nat.pow_add,Nat.pow_succ,Nat.mul_comm (10 ^ (i + 1)) 10];exact Nat.mul_lt_mul_of_pos_right zO (Nat.pow_pos (by decide))
   rw [if_neg (Nat.ne_of_lt hVlt)]
   have hL : dl (i + 1) y ++ ((48 + t : Nat) : Int) :: List.replicate j 48 = ds ((10 * y + t) * 10 ^ j) := by
    have h1 := zZS (i + 1 + 1) (10 * y + t) j;rw [zVQ (i + 1) y t h9,List.append_assoc] at h1;rw [← dl_ds (i + 1 + j) _ hV (by rw [show i + 1 + j + 1 = i + 1 + 1 + j by omega];exact hVlt),show i + 1 + j + 1 = i + 1 + 1 + j by omega,h1]
    rfl
   have hend := zWh (dl (i + 1) y ++ ((48 + t : Nat) : Int) :: List.replicate j 48) e ((i + 1 : Nat) : Int) (by simp only [List.length_append,List.length_cons,List.length_replicate,zXd];omega);rw [hL,zZY,← hL] at hend;refine Ev.step (fun k => ?_) hend;rw [dec_tidy.l0,if_pos zO,if_pos zO,if_pos (by simp only [List.length_append,List.length_cons,List.length_replicate,zXd];omega),zJc _ _ _ (i + 1) (zXd _ _),decide_eq_false zO]
  ·(obtain rfl : t = 10 := by omega);have hi := ih (y / 10) (y % 10 + 1) (j + 1) e (by rw [Nat.pow_succ] at hy;omega) zO ?_ zO he he2
   ·have eV : (10 * (y / 10) + (y % 10 + 1)) * 10 ^ (j + 1) = (10 * y + 10) * 10 ^ j := by
     rw [show 10 * (y / 10) + (y % 10 + 1) = y + 1 by omega,Nat.pow_succ,Nat.mul_comm (10 ^ j) 10,← Nat.mul_assoc]
     congr 1
     omega
    rw [eV,show i + 1 + (j + 1) = i + 1 + 1 + j by omega] at hi
    have eL : dl i (y / 10) ++ ((48 + (y % 10 + 1) : Nat) : Int) :: List.replicate (j + 1) 48 = (dl i (y / 10) ++ dg y :: (48 :: List.replicate j 48)).set i ((dg y + 1) % 256) := by
     have h1 := set_mid (dg y) ((dg y + 1) % 256) (48 :: List.replicate j 48) (dl i (y / 10));rw [zXd] at h1;rw [h1,List.replicate_succ]
     congr 2
     unfold dg;omega
    rw [eL] at hi
    have eM : (dl (i + 1) y ++ ((48 + 10 : Nat) : Int) :: List.replicate j 48).set (i + 1) 48 = dl i (y / 10) ++ dg y :: (48 :: List.replicate j 48) := by
     have h1 := set_mid ((48 + 10 : Nat) : Int) 48 (List.replicate j 48) (dl (i + 1) y);rw [zXd] at h1;rw [h1,dl,List.append_assoc]
     rfl
    refine Ev.step (f := fun k => dec_tidy.j1 k (dl (i + 1) y ++ ((48 + 10 : Nat) : Int) :: List.replicate j 48) e ((i + 1 : Nat) : Int) true) (fun k => ?_) (Ev.step (f := fun k => dec_tidy.l0 k ((dl i (y / 10) ++ dg y :: (48 :: List.replicate j 48)).set i ((dg y + 1) % 256)) e (i : Int)) (fun k => ?_) hi)
    ·rw [dec_tidy.l0,if_pos zO,if_pos zO,if_pos (by simp only [List.length_append,List.length_cons,List.length_replicate,zXd];omega),zJc _ _ _ (i + 1) (zXd _ _),decide_eq_true zO]
    ·rw [dec_tidy.j1,if_pos rfl,if_pos zO,if_pos (by simp only [List.length_append,List.length_cons,List.length_replicate,zXd];omega),Option.bind_some,if_pos zO,zWH i zO,if_pos zO,if_pos (by simp only [List.length_append,List.length_cons,List.length_replicate,zXd];omega),Int.toNat_natCast,Int.toNat_natCast,eM,zJc _ _ _ i (zXd _ _)]
   ·have eV : (10 * (y / 10) + (y % 10 + 1)) * 10 ^ (j + 1) = (10 * y + 10) * 10 ^ j := by
     rw [show 10 * (y / 10) + (y % 10 + 1) = y + 1 by omega,Nat.pow_succ,Nat.mul_comm (10 ^ j) 10,← Nat.mul_assoc]
     congr 1
     omega
    rw [eV,show i + (j + 1) = i + 1 + j by omega];exact hV
theorem zHz (m y t : Nat) (e : Int) (hy : y < 10 ^ m) (ht : t ≤ 10) (hX : 10 ^ m ≤ 10 * y + t) (hm : m ≤ 1000) (he : -100000 ≤ e) (he2 : e ≤ 100000) :
  Ev (fun k => dec_tidy.f k (dl m y ++ [((48 + t : Nat) : Int)]) e) (strOfNums (ds (strip (10 * y + t))),if 10 * y + t = 10 ^ (m + 1) then e + 1 else e) := by
 have h := zVi m y t 0 e hy ht (by rw [Nat.add_zero,Nat.pow_zero,Nat.mul_one];exact hX) zO he he2;rw [Nat.pow_zero,Nat.mul_one,Nat.add_zero] at h;refine Ev.congr (fun k => ?_) h;unfold dec_tidy.f;rw [List.length_append,zXd,List.length_singleton,zWH m zO]
 rfl
end Go.Proofs.YtongfmeediokmaaGreatDoor.Pure
end
section
namespace Go.Proofs.YtongfmeediokmaaGreatDoor.Flo
open Go Ieee
theorem zGT {x K m S A B : Nat} (hK : 0 < K) (hS : 0 < S) (h : x * K = m * S) : m * B < A * K ↔ x * B < A * S := by
 rw [← Nat.mul_lt_mul_left (a := S) hS,← Nat.mul_lt_mul_left (a := K) (b := x * B) hK];rw [show S * (m * B) = (m * S) * B by rw [Nat.mul_comm m S,Nat.mul_assoc],← h,show x * K * B = K * (x * B) by rw [Nat.mul_comm x K,Nat.mul_assoc],show S * (A * K) = K * (A * S) by rw [Nat.mul_comm A K,Nat.mul_left_comm,Nat.mul_comm A S]]
theorem zBz {x K m S A B : Nat} (hK : 0 < K) (hS : 0 < S) (h : x * K = m * S) : m * B = A * K ↔ x * B = A * S := by
 constructor
 ·intro g
  refine Nat.eq_of_mul_eq_mul_left hK ?_
  rw [show K * (x * B) = (x * K) * B by rw [Nat.mul_comm x K,Nat.mul_assoc],h,Nat.mul_right_comm,g,Nat.mul_assoc,Nat.mul_comm K S,← Nat.mul_assoc,Nat.mul_comm]
 ·intro g
  refine Nat.eq_of_mul_eq_mul_left hS ?_
  rw [show S * (m * B) = (m * S) * B by rw [Nat.mul_comm m S,Nat.mul_assoc],← h,Nat.mul_right_comm,g,show S * (A * K) = A * S * K by rw [Nat.mul_comm A K,Nat.mul_left_comm,Nat.mul_comm K,Nat.mul_comm S A]]
theorem zVU {x K m S A B : Nat} (hK : 0 < K) (hS : 0 < S) (h : x * K = m * S) : A * K < m * B ↔ A * S < x * B := by
 rw [← Nat.mul_lt_mul_left (a := S) hS,← Nat.mul_lt_mul_left (a := K) (b := A * S) hK];rw [show S * (m * B) = (m * S) * B by rw [Nat.mul_comm m S,Nat.mul_assoc],← h,show x * K * B = K * (x * B) by rw [Nat.mul_comm x K,Nat.mul_assoc],show S * (A * K) = K * (A * S) by rw [Nat.mul_comm A K,Nat.mul_left_comm,Nat.mul_comm A S]]
structure Sp (a R S D U : Nat) : Prop where
 hS : 0 < S
 hR : R * K = (2 * units a) * S
 hD : D * K = (units a - units (a - 1)) * S
 hU : U * K = (units (a + 1) - units a) * S
theorem zVb {a : Nat} (h : 0 < a) : 0 < units a := by
 have h1 := zXQ h;omega
theorem sp_D {a R S D U : Nat} (h : Sp a R S D U) (ha : 0 < a) : 0 < D := by
 have h1 : units (a - 1) < units a := zXQ zO;have h2 : 0 < (units a - units (a - 1)) * S := Nat.mul_pos zO h.hS;rw [← h.hD] at h2;exact Nat.pos_of_mul_pos_right h2
theorem sp_U {a R S D U : Nat} (h : Sp a R S D U) : 0 < U := by
 have h1 := zYT a;have h2 : 0 < (units (a + 1) - units a) * S := Nat.mul_pos zO h.hS;rw [← h.hU] at h2;exact Nat.pos_of_mul_pos_right h2
theorem zWO {a R S D U : Nat} (h : Sp a R S D U) : 2 * D ≤ R := by
 refine Nat.le_of_mul_le_mul_right (c := K) ?_ K_pos;rw [Nat.mul_assoc,h.hD,h.hR,Nat.mul_assoc];exact Nat.mul_le_mul_left _ (Nat.mul_le_mul_right _ (Nat.sub_le _ _))
theorem sp_lo {a R S D U : Nat} (h : Sp a R S D U) (ha : 0 < a) : (R - D) * K = mid (a - 1) * S := by
 have h1 : units (a - 1) < units a := zXQ zO;rw [Nat.sub_mul,h.hR,h.hD,← Nat.sub_mul];unfold mid;rw [show a - 1 + 1 = a by omega]
 congr 1
 omega
theorem sp_hi {a R S D U : Nat} (h : Sp a R S D U) : (R + U) * K = mid a * S := by
 have h1 := zYT a;rw [Nat.add_mul,h.hR,h.hU,← Nat.add_mul];unfold mid
 congr 1
 omega
theorem zJx {a R S D U A B : Nat} (h : Sp a R S D U) (ha : 0 < a) : Above A B a ↔ ((R - D) * B < A * S ∨ ((R - D) * B = A * S ∧ a % 2 = 0)) := by
 unfold Above;rw [zGT K_pos h.hS (sp_lo h ha),zBz K_pos h.hS (sp_lo h ha)];constructor
 ·rintro (h0 | h0 | h0)
  ·omega
  ·exact .inl h0
  ·exact .inr h0
 ·rintro (h0 | h0)
  ·exact .inr (.inl h0)
  ·exact .inr (.inr h0)
theorem zWJ {a R S D U A B : Nat} (h : Sp a R S D U) : Under A B a ↔ (A * S < (R + U) * B ∨ (A * S = (R + U) * B ∧ a % 2 = 0)) := by
 unfold Under;rw [zVU K_pos h.hS (sp_hi h),eq_comm,zBz K_pos h.hS (sp_hi h),eq_comm]
def Far (r up s : Nat) (ev : Bool) : Prop := s < r + up ∨ (s = r + up ∧ ev = true)
def Low (r dn : Nat) (ev : Bool) : Prop := r < dn ∨ (r = dn ∧ ev = true)
instance (r up s : Nat) (ev : Bool) : Decidable (Far r up s ev) := by unfold Far;infer_instance
instance (r dn : Nat) (ev : Bool) : Decidable (Low r dn ev) := by unfold Low;infer_instance
theorem zYv {a b c d x y : Nat} (ha : 0 < a) (hd : 0 < d) (hb : 0 < b) (hc : 0 < c) (h : a * d = b * c) : x * a < y * b ↔ x * c < y * d := by
 rw [← Nat.mul_lt_mul_left (a := d) hd,← Nat.mul_lt_mul_left (a := b) (b := x * c) hb];rw [show d * (x * a) = x * (a * d) by rw [Nat.mul_left_comm,Nat.mul_comm d a],h,show b * (x * c) = x * (b * c) by rw [Nat.mul_left_comm],show d * (y * b) = b * (y * d) by rw [Nat.mul_comm y b,Nat.mul_left_comm,Nat.mul_comm d y]]
theorem zBo {a b c d x y : Nat} (ha : 0 < a) (hd : 0 < d) (hb : 0 < b) (hc : 0 < c) (h : a * d = b * c) : x * a = y * b ↔ x * c = y * d := by
 have h1 := zYv (x := x) (y := y) ha hd hb hc h;have h2 := zYv (a := b) (b := a) (c := d) (d := c) (x := y) (y := x) hb hc ha hd h.symm;omega
theorem zZj {e : Int} {p q m : Nat} (he : e = (q : Int) - p) : loN (e - m) * 10 ^ q = 10 ^ (e - m).toNat * (10 ^ p * 10 ^ m) := by
 unfold loN;rw [← Nat.pow_add,← Nat.pow_add,← Nat.pow_add]
 congr 1
 omega
theorem zQE (n : Nat) : 0 < 10 ^ n := Nat.pow_pos (by decide)
theorem zHO {a R S D U Q ρ p q m : Nat} {e : Int} (h : Sp a R S D U) (ha : 0 < a) (he : e = (q : Int) - p) (hQ : R * 10 ^ p * 10 ^ m = Q * (S * 10 ^ q) + ρ) :
  Above (upN Q (e - m)) (loN (e - m)) a ↔ Low ρ (D * 10 ^ p * 10 ^ m) (a % 2 == 0) := by
 have hD2 := zWO h;have hc := zZj (m := m) he;rw [zJx h ha];unfold upN;rw [show Q * 10 ^ (e - (m : Int)).toNat * S = Q * S * 10 ^ (e - (m : Int)).toNat by rw [Nat.mul_right_comm]];rw [zYv (zYQ _) (zQE q) (zQE _) (Nat.mul_pos (zQE p) (zQE m)) hc,zBo (zYQ _) (zQE q) (zQE _) (Nat.mul_pos (zQE p) (zQE m)) hc];(have e1 : (R - D) * (10 ^ p * 10 ^ m) = R * 10 ^ p * 10 ^ m - D * 10 ^ p * 10 ^ m := by rw [Nat.sub_mul,Nat.mul_assoc,Nat.mul_assoc]);have e2 : D * 10 ^ p * 10 ^ m ≤ R * 10 ^ p * 10 ^ m := Nat.mul_le_mul_right _ (Nat.mul_le_mul_right _ zO);rw [e1,hQ,show Q * S * 10 ^ q = Q * (S * 10 ^ q) by rw [Nat.mul_assoc]];rw [hQ] at e2;unfold Low;simp only [beq_iff_eq];omega
theorem zHX {a R S D U Q ρ p q m : Nat} {e : Int} (h : Sp a R S D U) (he : e = (q : Int) - p) (hQ : R * 10 ^ p * 10 ^ m = Q * (S * 10 ^ q) + ρ) :
  Under (upN (Q + 1) (e - m)) (loN (e - m)) a ↔ Far ρ (U * 10 ^ p * 10 ^ m) (S * 10 ^ q) (a % 2 == 0) := by
 have hc := zZj (m := m) he;rw [zWJ h];unfold upN;rw [show (Q + 1) * 10 ^ (e - (m : Int)).toNat * S = (Q + 1) * S * 10 ^ (e - (m : Int)).toNat by rw [Nat.mul_right_comm]];rw [zYv (zQE _) (Nat.mul_pos (zQE p) (zQE m)) (zYQ _) (zQE q) hc.symm,zBo (zQE _) (Nat.mul_pos (zQE p) (zQE m)) (zYQ _) (zQE q) hc.symm];(have e1 : (R + U) * (10 ^ p * 10 ^ m) = Q * (S * 10 ^ q) + ρ + U * 10 ^ p * 10 ^ m := by rw [Nat.add_mul,← Nat.mul_assoc,hQ,← Nat.mul_assoc U]);rw [e1,show (Q + 1) * S * 10 ^ q = Q * (S * 10 ^ q) + S * 10 ^ q by rw [Nat.mul_assoc,Nat.add_mul,Nat.one_mul]];unfold Far;simp only [beq_iff_eq];omega
theorem zVc {a R S D U Q ρ p q m : Nat} {e : Int} (h : Sp a R S D U) (he : e = (q : Int) - p) (hQ : R * 10 ^ p * 10 ^ m = Q * (S * 10 ^ q) + ρ) :
  Under (upN Q (e - m)) (loN (e - m)) a := by
 have hc := zZj (m := m) he;rw [zWJ h];unfold upN;rw [show Q * 10 ^ (e - (m : Int)).toNat * S = Q * S * 10 ^ (e - (m : Int)).toNat by rw [Nat.mul_right_comm]]
 refine .inl ?_
 rw [zYv (zQE _) (Nat.mul_pos (zQE p) (zQE m)) (zYQ _) (zQE q) hc.symm];(have e1 : (R + U) * (10 ^ p * 10 ^ m) = Q * (S * 10 ^ q) + ρ + U * 10 ^ p * 10 ^ m := by rw [Nat.add_mul,← Nat.mul_assoc,hQ,← Nat.mul_assoc U]);have hu : 0 < U * 10 ^ p * 10 ^ m := Nat.mul_pos (Nat.mul_pos (sp_U h) (zQE _)) (zQE _);rw [e1,Nat.mul_assoc];omega
theorem zBV {a R S D U Q ρ p q m : Nat} {e : Int} (h : Sp a R S D U) (ha : 0 < a) (he : e = (q : Int) - p) (hQ : R * 10 ^ p * 10 ^ m = Q * (S * 10 ^ q) + ρ) (hρ : ρ < S * 10 ^ q) :
  Above (upN (Q + 1) (e - m)) (loN (e - m)) a := by
 have hc := zZj (m := m) he;rw [zJx h ha];unfold upN;rw [show (Q + 1) * 10 ^ (e - (m : Int)).toNat * S = (Q + 1) * S * 10 ^ (e - (m : Int)).toNat by rw [Nat.mul_right_comm]]
 refine .inl ?_
 rw [zYv (zYQ _) (zQE q) (zQE _) (Nat.mul_pos (zQE p) (zQE m)) hc]
 have e1 : (R - D) * (10 ^ p * 10 ^ m) ≤ Q * (S * 10 ^ q) + ρ := by
  rw [← hQ,← Nat.mul_assoc];exact Nat.mul_le_mul_right _ (Nat.mul_le_mul_right _ (Nat.sub_le _ _))
 rw [show (Q + 1) * S * 10 ^ q = Q * (S * 10 ^ q) + S * 10 ^ q by rw [Nat.mul_assoc,Nat.add_mul,Nat.one_mul]];omega
theorem zJa {X a : Nat} {E : Int} {w : Nat} (hX : X ≠ 0) (hE : -1000 ≤ E) (hE2 : E ≤ 400) (ha : a < INF) (hw : zBE X E w) : w = a ↔ zXH (upN X E) (loN E) a := by
 unfold zBE at hw;rw [if_neg zO,if_neg zO] at hw;obtain ⟨v,hv,rfl⟩ := hw;constructor
 ·intro h;(have : v = a := by omega);rw [← this];exact hv
 ·intro h;rw [zJR (zYQ E) (zYQ E) rfl hv h];omega
theorem zKL (a : Nat) : ∃ j q : Nat,a = j * 4503599627370496 + q ∧ q < 9007199254740992 ∧ (j = 0 ∨ 4503599627370496 ≤ q) ∧ units a = q * 2 ^ j ∧ units (a + 1) = (q + 1) * 2 ^ j := by
 by_cases h : a < 4503599627370496
 ·refine ⟨0,a,by omega,by omega,.inl rfl,?_,?_⟩
  ·have := zXy 0 a zO (.inl rfl)
   rwa [Nat.zero_mul,Nat.zero_add] at this
  ·have := zXy 0 (a + 1) zO (.inl rfl)
   rwa [Nat.zero_mul,Nat.zero_add] at this
 ·refine ⟨a / 4503599627370496 - 1,4503599627370496 + a % 4503599627370496,by omega,by omega,.inr zO,?_,?_⟩
  ·have := zXy (a / 4503599627370496 - 1) (4503599627370496 + a % 4503599627370496) zO (.inr zO)
   rwa [show (a / 4503599627370496 - 1) * 4503599627370496 + (4503599627370496 + a % 4503599627370496) = a by omega] at this
  ·have := zXy (a / 4503599627370496 - 1) (4503599627370496 + a % 4503599627370496 + 1) zO (.inr zO)
   rwa [show (a / 4503599627370496 - 1) * 4503599627370496 + (4503599627370496 + a % 4503599627370496 + 1) = a + 1 by omega] at this
theorem zKM {a j q : Nat} (h : a = j * 4503599627370496 + q) (hq : q < 9007199254740992) (hj : j = 0 ∨ 4503599627370496 ≤ q) (h0 : 0 < a) :
  (units a - units (a - 1) = 2 ^ j) ∨ (q = 4503599627370496 ∧ 0 < j ∧ 2 * (units a - units (a - 1)) = 2 ^ j) := by
 (have e0 : units a = q * 2 ^ j := by rw [h];exact zXy j q zO hj);by_cases hc : j = 0 ∨ 4503599627370496 ≤ q - 1
 ·left
  have e1 : units (a - 1) = (q - 1) * 2 ^ j := by
   rw [show a - 1 = j * 4503599627370496 + (q - 1) by omega];exact zXy j (q - 1) zO hc
  rw [e0,e1,← Nat.sub_mul,show q - (q - 1) = 1 by omega,Nat.one_mul]
 ·right;(have hq2 : q = 4503599627370496 := by omega);obtain ⟨i,rfl⟩ : ∃ i,j = i + 1 := ⟨j - 1,by omega⟩
  have e1 : units (a - 1) = 9007199254740991 * 2 ^ i := by
   rw [show a - 1 = i * 4503599627370496 + 9007199254740991 by omega];exact zXy i 9007199254740991 zO (.inr zO)
  refine ⟨hq2,by omega,?_⟩;rw [e0,e1,hq2,Nat.pow_succ];omega
theorem zWj {a R S D U : Nat} (h : Sp a R S D U) (ha : 0 < a) : ∃ q : Nat,0 < q ∧ q < 9007199254740992 ∧ R = 2 * q * U ∧ (D = U ∨ (q = 4503599627370496 ∧ 2 * D = U)) ∧ (a < 10 → q = a) ∧ (10 ≤ a → 10 ≤ q) := by
 obtain ⟨j,q,hf,hq,hj,e0,e1⟩ := zKL a;have hU := h.hU;rw [e0,e1,Nat.add_mul,Nat.one_mul,Nat.add_sub_cancel_left] at hU;have hR := h.hR;rw [e0] at hR;refine ⟨q,?_,hq,?_,?_,?_,?_⟩
 ·rcases Nat.eq_zero_or_pos q with h0 | h0
  ·rcases hj with hj | hj
   ·rw [hj,h0] at hf;omega
   ·omega
  ·exact h0
 ·refine Nat.eq_of_mul_eq_mul_right K_pos ?_
  rw [hR,Nat.mul_assoc (2 * q) U,hU];simp only [Nat.mul_assoc]
 ·rcases zKM hf hq hj ha with g | ⟨g1,g2,g3⟩
  ·left
   refine Nat.eq_of_mul_eq_mul_right K_pos ?_
   rw [h.hD,g,hU]
  ·right;refine ⟨g1,Nat.eq_of_mul_eq_mul_right K_pos ?_⟩;rw [Nat.mul_assoc,h.hD,hU,← g3,Nat.mul_assoc]
 ·intro h10;rcases hj with hj | hj
  ·rw [hj] at hf;omega
  ·omega
 ·intro h10;rcases hj with hj | hj
  ·rw [hj] at hf;omega
  ·omega
theorem sp_UR {a R S D U : Nat} (h : Sp a R S D U) (ha : 0 < a) : 2 * U ≤ R := by
 obtain ⟨q,h1,h2,h3,_⟩ := zWj h ha;rw [h3];exact Nat.mul_le_mul_right _ zO
def kT : Nat := 322
theorem zFx : Nat.blt (19 * 10 ^ kT) K = true := by kernel_rfl
theorem zFw : Nat.blt (4 * (10 ^ kT * 10)) K = true := by kernel_rfl
theorem zFv : Nat.blt (19 * K) (80 * (10 ^ kT * 10)) = true := by kernel_rfl
theorem zGc {a b : Nat} (h : a.blt b = true) : a < b := by
 rw [Nat.blt_eq] at h;exact h
theorem far_K : ∃ T t : Nat,T = 10 ^ t ∧ t = 322 ∧ 19 * T < K ∧ 4 * (T * 10) < K ∧ 19 * K < 80 * (T * 10) := ⟨10 ^ kT,kT,rfl,rfl,zGc zFx,zGc zFw,zGc zFv⟩
theorem zGE {a R S D U p q : Nat} {ev : Bool} (h : Sp a R S D U) (ha : 0 < a) (hf : Far (R * 10 ^ p) (U * 10 ^ p) (S * 10 ^ q) ev) (hlt : R * 10 ^ p < S * 10 ^ q) : 19 * (S * 10 ^ q) < 20 * (R * 10 ^ p) := by
 have hle : S * 10 ^ q ≤ R * 10 ^ p + U * 10 ^ p := by
  rcases hf with hf | hf
  ·exact Nat.le_of_lt hf
  ·exact Nat.le_of_eq hf.1
 have hUp : 0 < U * 10 ^ p := Nat.mul_pos (sp_U h) (zQE p);obtain ⟨f,f0,f1,f2,_,f3,f4⟩ := zWj h ha;by_cases h10 : 10 ≤ a
 ·have h20 : 20 * (U * 10 ^ p) ≤ R * 10 ^ p := by
   rw [← Nat.mul_assoc,f2];exact Nat.mul_le_mul_right _ (Nat.mul_le_mul_right _ (by have := f4 h10;omega))
  omega
 ·have hfa := f3 zO;have u0 : units a = a := zZV zO;have u1 : units (a + 1) = a + 1 := zZV zO;have hR := h.hR;have hU := h.hU;rw [u0] at hR;rw [u0,u1,Nat.add_sub_cancel_left,Nat.one_mul] at hU
  have g1 : 2 * a * 10 ^ p < K * 10 ^ q := by
   refine Nat.lt_of_mul_lt_mul_left (a := S) ?_
   have : R * 10 ^ p * K < S * 10 ^ q * K := Nat.mul_lt_mul_of_pos_right hlt K_pos;rw [Nat.mul_right_comm,hR] at this;(have e1 : S * (2 * a * 10 ^ p) = 2 * a * S * 10 ^ p := by rw [Nat.mul_left_comm,← Nat.mul_assoc,Nat.mul_assoc (2 * a) S,Nat.mul_comm S,← Nat.mul_assoc]);(have e2 : S * (K * 10 ^ q) = S * 10 ^ q * K := by rw [Nat.mul_comm K,Nat.mul_assoc]);rw [e1,e2];exact this
  have g2 : K * 10 ^ q ≤ (2 * a + 1) * 10 ^ p := by
   refine Nat.le_of_mul_le_mul_left (c := S) ?_ h.hS;have : S * 10 ^ q * K ≤ (R * 10 ^ p + U * 10 ^ p) * K := Nat.mul_le_mul_right _ hle;rw [Nat.add_mul,Nat.mul_right_comm R,Nat.mul_right_comm U,hR,hU] at this
   have e1 : S * ((2 * a + 1) * 10 ^ p) = 2 * a * S * 10 ^ p + S * 10 ^ p := by
    rw [Nat.add_mul,Nat.one_mul,Nat.mul_add,← Nat.mul_assoc S (2 * a),Nat.mul_comm S (2 * a)]
   (have e2 : S * (K * 10 ^ q) = S * 10 ^ q * K := by rw [Nat.mul_comm K,Nat.mul_assoc]);rw [e1,e2];exact this
  obtain ⟨T0,t0,hT0,ht0,k1,k2,k3⟩ := far_K
  have hT1 : 0 < T0 := by rw [hT0];exact zQE _
  have hpq : q ≤ p := by
   apply Nat.le_of_not_lt;intro hqp;have : (2 * a + 1) * 10 ^ p ≤ 19 * 10 ^ q := Nat.mul_le_mul zO (Nat.pow_le_pow_right (by decide) zO);have g3 : K * 10 ^ q ≤ 19 * 10 ^ q := Nat.le_trans g2 this;have g4 : K ≤ 19 := Nat.le_of_mul_le_mul_right g3 (zQE q);omega
  obtain ⟨g,rfl⟩ : ∃ g,p = g + q := ⟨p - q,by omega⟩;rw [Nat.pow_add,← Nat.mul_assoc] at g1 g2;have g1' : 2 * a * 10 ^ g < K := Nat.lt_of_mul_lt_mul_right g1;have g2' : K ≤ (2 * a + 1) * 10 ^ g := Nat.le_of_mul_le_mul_right g2 (zQE q)
  have hg1 : t0 + 1 ≤ g := by
   apply Nat.le_of_not_lt;intro hlt;have : (2 * a + 1) * 10 ^ g ≤ 19 * 10 ^ t0 := Nat.mul_le_mul zO (Nat.pow_le_pow_right (by decide) zO);rw [← hT0] at this;omega
  have hg2 : g = t0 + 1 := by
   apply Nat.le_antisymm _ hg1;apply Nat.le_of_not_lt;intro hlt;have : 2 * 10 ^ (t0 + 2) ≤ 2 * a * 10 ^ g := Nat.mul_le_mul zO (Nat.pow_le_pow_right (by decide) zO);rw [Nat.pow_succ,Nat.pow_succ,← hT0] at this;omega
  rw [hg2,Nat.pow_succ,← hT0] at g1' g2'
  have ha2 : a = 2 := by
   have c1 : ¬ 3 ≤ a := by
    intro hc;have : 6 * (T0 * 10) ≤ 2 * a * (T0 * 10) := Nat.mul_le_mul_right _ zO;omega
   have c2 : ¬ a ≤ 1 := by
    intro hc;have : (2 * a + 1) * (T0 * 10) ≤ 3 * (T0 * 10) := Nat.mul_le_mul_right _ zO;omega
   omega
  refine Nat.lt_of_mul_lt_mul_right (a := K) ?_
  have e5 : 20 * (R * 10 ^ (g + q)) * K = S * 10 ^ q * (80 * (T0 * 10)) := by
   rw [Nat.mul_assoc 20,Nat.mul_right_comm R,hR,ha2,Nat.pow_add,hg2,Nat.pow_succ,← hT0,show 20 * (2 * 2 * S * (T0 * 10 * 10 ^ q)) = 80 * (S * (T0 * 10 * 10 ^ q)) by rw [Nat.mul_assoc (2 * 2),← Nat.mul_assoc 20]];rw [Nat.mul_left_comm _ 80,Nat.mul_assoc S,Nat.mul_comm (10 ^ q)]
  have e6 : 19 * (S * 10 ^ q) * K = S * 10 ^ q * (19 * K) := by
   rw [Nat.mul_comm 19,Nat.mul_assoc]
  rw [e5,e6];exact Nat.mul_lt_mul_of_pos_left k3 (Nat.mul_pos h.hS (zQE q))
def Least (x y : Nat) (e : Int) : Prop := y * 10 ^ e.toNat ≤ x * 10 ^ (-e).toNat
instance (x y : Nat) (e : Int) : Decidable (Least x y e) := by unfold Least;infer_instance
theorem zYA {x y R S p q : Nat} {e : Int} (hx : 0 < x) (hy : 0 < y) (hS : 0 < S) (hR : 0 < R) (h : x * S = R * y) (he : e = (q : Int) - p) : Least x y e ↔ S * 10 ^ q ≤ R * 10 ^ p := by
 unfold Least
 have h1 : x * 10 ^ (-e).toNat < y * 10 ^ e.toNat ↔ R * 10 ^ p < S * 10 ^ q := by
  have e1 : 10 ^ (-e).toNat * 10 ^ q = 10 ^ e.toNat * 10 ^ p := by
   rw [← Nat.pow_add,← Nat.pow_add]
   congr 1
   omega
  rw [zYv (zQE _) (zQE _) (zQE _) (zQE _) e1];rw [Nat.mul_comm x,Nat.mul_comm y,Nat.mul_comm R,Nat.mul_comm S];exact zYv hx hS hy hR (by rw [h,Nat.mul_comm])
 omega
theorem zYo {x y : Nat} {e e' : Int} (hx : 0 < x) (hy : 0 < y) (h : Least x y e') (hle : e ≤ e') : Least x y e := by
 (have e1 : e' = ((e' + ((-e).toNat + (-e').toNat : Nat)).toNat : Int) - ((-e).toNat + (-e').toNat : Nat) := by omega);(have e2 : e = ((e + ((-e).toNat + (-e').toNat : Nat)).toNat : Int) - ((-e).toNat + (-e').toNat : Nat) := by omega);rw [zYA hx hy hy hx rfl e1] at h;rw [zYA hx hy hy hx rfl e2];exact Nat.le_trans (Nat.mul_le_mul_left _ (Nat.pow_le_pow_right (by decide) zO)) h
theorem sp_R {a R S D U : Nat} (h : Sp a R S D U) (ha : 0 < a) : 0 < R := by
 have := sp_U h;have := sp_UR h ha;omega
theorem powers {a R S D U p q x y : Nat} {ev : Bool} {e : Int} (h : Sp a R S D U) (ha : 0 < a) (hx : 0 < x) (hy : 0 < y) (hxy : x * S = R * y)
  (hf : Far (R * 10 ^ p) (U * 10 ^ p) (S * 10 ^ q) ev) (hn : ¬ Far (R * 10 ^ p) (U * 10 ^ p) (S * 10 ^ (q + 1)) ev) (h1 : Least x y e) (h2 : ¬ Least x y (e + 1)) :
  (e = (q : Int) - p ∧ S * 10 ^ q ≤ R * 10 ^ p) ∨ (e + 1 = (q : Int) - p ∧ R * 10 ^ p < S * 10 ^ q) := by
 have hR := sp_R h ha;have hU := sp_U h;have hUR := sp_UR h ha
 have c1 : e ≤ (q : Int) - p := by
  apply Int.le_of_not_gt;intro hc;have := zYo (e := (q : Int) - p + 1) hx hy h1 zO;rw [zYA (q := q + 1) (p := p) hx hy h.hS hR hxy zO] at this;apply hn;left;have : 0 < U * 10 ^ p := Nat.mul_pos hU (zQE p);omega
 have c2 : (q : Int) - p ≤ e + 1 := by
  apply Int.le_of_not_gt;intro hc;(have g : ¬ Least x y ((q : Int) - p - 1) := fun g => h2 (zYo hx hy g zO));rw [zYA (q := q) (p := p + 1) hx hy h.hS hR hxy zO,Nat.pow_succ,← Nat.mul_assoc] at g
  have hle : S * 10 ^ q ≤ R * 10 ^ p + U * 10 ^ p := by
   rcases hf with hf | hf
   ·exact Nat.le_of_lt hf
   ·exact Nat.le_of_eq hf.1
  have : U * 10 ^ p ≤ R * 10 ^ p := Nat.mul_le_mul_right _ zO;omega
 by_cases hc : e = (q : Int) - p
 ·left;exact ⟨hc,(zYA hx hy h.hS hR hxy hc).mp h1⟩
 ·right;(have he : e + 1 = (q : Int) - p := by omega);refine ⟨he,?_⟩;rw [zYA hx hy h.hS hR hxy he] at h2;omega
def Stop (ρ dn up s : Nat) (ev : Bool) : Prop := Low ρ dn ev ∨ Far ρ up s ev
instance (ρ dn up s : Nat) (ev : Bool) : Decidable (Stop ρ dn up s ev) := by unfold Stop;infer_instance
def pickX (Q ρ dn up s : Nat) (ev : Bool) : Nat := if Far ρ up s ev ∧ (¬ Low ρ dn ev ∨ s < 2 * ρ ∨ (2 * ρ = s ∧ Q % 2 = 1)) then Q + 1 else Q
def gen (r s dn up : Nat) (ev : Bool) : Nat → Nat → Nat × Nat
 | 0,m => (m,0)
 | n + 1,m => if Stop (r * 10 ^ m % s) (dn * 10 ^ m) (up * 10 ^ m) s ev then (m,pickX (r * 10 ^ m / s) (r * 10 ^ m % s) (dn * 10 ^ m) (up * 10 ^ m) s ev) else gen r s dn up ev n (m + 1)
theorem zYO {a R S D U p q : Nat} (ev : Bool) (h : Sp a R S D U) (ha : 0 < a) (hge : S * 10 ^ q ≤ R * 10 ^ p) : Stop (R * 10 ^ p * 10 ^ 16 % (S * 10 ^ q)) (D * 10 ^ p * 10 ^ 16) (U * 10 ^ p * 10 ^ 16) (S * 10 ^ q) ev := by
 obtain ⟨f,f0,f1,f2,f3,_,_⟩ := zWj h ha;have hs : 0 < S * 10 ^ q := Nat.mul_pos h.hS (zQE q);have hρ := Nat.mod_lt (R * 10 ^ p * 10 ^ 16) hs;obtain ⟨s,hse⟩ : ∃ s,s = S * 10 ^ q := ⟨_,rfl⟩;rw [← hse] at hs hρ hge ⊢;obtain ⟨ρ,hρe⟩ : ∃ ρ,ρ = R * 10 ^ p * 10 ^ 16 % s := ⟨_,rfl⟩;rw [← hρe] at hρ ⊢;obtain ⟨u,hu⟩ : ∃ u,u = U * 10 ^ p * 10 ^ 16 := ⟨_,rfl⟩
 have hr : R * 10 ^ p * 10 ^ 16 = 2 * f * u := by
  rw [f2,hu];simp only [Nat.mul_assoc]
 (have hb : s * 10 ^ 16 ≤ 2 * f * u := by rw [← hr];exact Nat.mul_le_mul_right _ hge);(have hu0 : 0 < u := by rw [hu];exact Nat.mul_pos (Nat.mul_pos (sp_U h) (zQE _)) (zQE _));rw [← hu];(have e16 : (10 : Nat) ^ 16 = 10000000000000000 := by decide);rw [e16] at hb;unfold Stop Low Far;rcases f3 with f3 | ⟨f3,f4⟩
 ·(have hd : D * 10 ^ p * 10 ^ 16 = u := by rw [f3,hu]);rw [hd];have : 2 * f * u ≤ 2 * 9007199254740991 * u := Nat.mul_le_mul_right _ zO;omega
 ·rw [f3] at hb;omega
theorem zBw (r s dn up : Nat) (ev : Bool) : ∀ (n m : Nat),(∃ j,m ≤ j ∧ j < m + n ∧ Stop (r * 10 ^ j % s) (dn * 10 ^ j) (up * 10 ^ j) s ev) →
  m ≤ (gen r s dn up ev n m).1 ∧ (gen r s dn up ev n m).1 < m + n ∧ (gen r s dn up ev n m).2 = pickX (r * 10 ^ (gen r s dn up ev n m).1 / s) (r * 10 ^ (gen r s dn up ev n m).1 % s) (dn * 10 ^ (gen r s dn up ev n m).1) (up * 10 ^ (gen r s dn up ev n m).1) s ev ∧ Stop (r * 10 ^ (gen r s dn up ev n m).1 % s) (dn * 10 ^ (gen r s dn up ev n m).1) (up * 10 ^ (gen r s dn up ev n m).1) s ev
 | 0,m,h => by obtain ⟨j,h1,h2,_⟩ := h;omega
 | n + 1,m,h => by
  rw [gen];by_cases hs : Stop (r * 10 ^ m % s) (dn * 10 ^ m) (up * 10 ^ m) s ev
  ·rw [if_pos hs];exact ⟨Nat.le_refl _,by show m < m + (n + 1);omega,rfl,hs⟩
  ·rw [if_neg hs];obtain ⟨j,h1,h2,h3⟩ := h;(have hj : m ≠ j := fun hj => hs (hj ▸ h3));obtain ⟨g1,g2,g3,g4⟩ := zBw r s dn up ev n (m + 1) ⟨j,by omega,by omega,h3⟩;exact ⟨by omega,by omega,g3,g4⟩
end Go.Proofs.YtongfmeediokmaaGreatDoor.Flo
end
section
namespace Go.Proofs.YtongfmeediokmaaGreatDoor.Pure
open Go.RowKit YtongfmeediokmaaGreatDoor.Pr YtongfmeediokmaaGreatDoorW.PrintWords YtongfmeediokmaaGreatDoorW.PrintLast YtongfmeediokmaaGreatDoorW.PrintMore YtongfmeediokmaaGreatDoor.Flo
theorem zXv {x m : Nat} (h : x < 2 ^ m) (hm : m ≤ 1000000) : (toB x).length ≤ 1048000 := by
 have := zXK h;omega
theorem zFq (x : Nat) (h : (toB x).length ≤ 1047000) : Ev (fun k => b_up.f k (toB x) 1) (toB (x * 2)) := by
 have hup := up_ev x 1 (.inr (by decide)) zO;rw [Nat.pow_one] at hup;exact hup
theorem zYN (x : Nat) (h : (toB x).length ≤ 1048576) : Ev (fun k => b_times.f k (toB x) 10 0) (toB (x * 10)) := by
 have := zZP x 10 0 (by decide) (by decide) h;exact this
theorem zZC (r up s m : Nat) (ev : Bool) (hm : m ≤ 900000) (hr : r < 2 ^ m) (hu : up < 2 ^ m) (hs : s < 2 ^ m) : Ev (fun k => dec_high.f k (toB s) (toB r) (toB up) ev) (decide (Far r up s ev)) := by
 (have hsum : r + up < 2 ^ (m + 1) := by rw [Nat.pow_succ];omega);have l1 := zXv hr zO;have l2 := zXv hu zO;have l3 := zXv hs zO;have l4 := zXv hsum zO;obtain ⟨K1,h1⟩ := zHJ r up zO zO;obtain ⟨c,⟨K2,h2⟩,c1,c2⟩ := zJu (r + up) s zO zO;refine ⟨K1 + K2,fun k hk => ?_⟩;dsimp only;(try dsimp only at h1);(try dsimp only at h2);(try dsimp only at h3);(try dsimp only at h4);rw [dec_high.f,h1 k zO,Option.bind_some,h2 k zO,Option.bind_some]
 congr 1
 unfold Far
 cases ev
 ·rw [Bool.false_and,Bool.or_false]
  refine decide_eq_decide.2 ?_
  simp only [Bool.false_eq_true,and_false,or_false];omega
 ·rw [Bool.true_and,← Bool.decide_or]
  refine decide_eq_decide.2 ?_
  simp only [and_true];omega
def outF (mx : Nat × Nat) (e : Int) : ByteArray × Int := (strOfNums (ds (strip mx.2)),if mx.2 = 10 ^ (mx.1 + 1) then e + 1 else e)
theorem zVG (m y t : Nat) (e : Int) (hy : y < 10 ^ m) (ht : t ≤ 10) (hX : 10 ^ m ≤ 10 * y + t) (hm : m ≤ 1000) (he : -100000 ≤ e) (he2 : e ≤ 100000) (z : Int) (hz : z = ((48 + t : Nat) : Int)) :
  Ev (fun k => (dec_tidy.f k (dl m y ++ [z]) e).bind fun b => some (b.1,b.2)) (outF (m,10 * y + t) e) := by
 have h := zHz m y t e hy ht hX hm he he2;rw [hz];exact Ev.bind h (Ev.now _)
theorem zGh (n : Nat) (h : n ≤ 9) : (48 + (n : Int)) % 256 = ((48 + n : Nat) : Int) := by omega
theorem zGZ (n : Nat) (h : n ≤ 9) : (48 + (((n : Int) + 1) % 256)) % 256 = ((48 + (n + 1) : Nat) : Int) := by omega
theorem zFB (m Q ρ dn up s M : Nat) (ev : Bool) (e : Int) (hM : M ≤ 800000) (hρ : ρ < 2 ^ M) (hs : s < 2 ^ M) (hQ : Q / 10 < 10 ^ m) (hm : m ≤ 1000) (he : -100000 ≤ e) (he2 : e ≤ 100000)
  (hstop : Stop ρ dn up s ev) (hX : 10 ^ m ≤ pickX Q ρ dn up s ev) :
  Ev (fun k => d_s.j5 k e (dl m (Q / 10)) ((Q % 10 : Nat) : Int) (decide (Low ρ dn ev)) (decide (Far ρ up s ev)) (toB ρ) (toB s) (toB dn) (toB up) ev) (outF (m,pickX Q ρ dn up s ev) e) := by
 (have hn : Q % 10 ≤ 9 := by have := Nat.mod_lt Q (show 0 < 10 by decide);omega);have hQe : 10 * (Q / 10) + Q % 10 = Q := Nat.div_add_mod Q 10;have hup := zFq ρ (by have := zXK hρ;omega);have l4 := zXv (show ρ * 2 < 2 ^ (M + 1) by rw [Nat.pow_succ];omega) zO;have l3 := zXv hs zO;obtain ⟨K1,h1⟩ := hup;obtain ⟨c,⟨K2,h2⟩,c1,c2⟩ := zJu (ρ * 2) s zO zO;have hlen : (dl m (Q / 10)).length < 140737488355328 := by rw [zXd];omega
 have main : Ev (fun k => d_s.j6 k e (dl m (Q / 10)) ((Q % 10 : Nat) : Int) (decide (Low ρ dn ev)) (decide (Far ρ up s ev)) false (toB ρ) (toB s) (toB dn) (toB up) ev) (outF (m,pickX Q ρ dn up s ev) e) := by
  have hodd : Int.tmod ((Q % 10 : Nat) : Int) 2 = 1 ↔ Q % 2 = 1 := by
   rw [Int.tmod_eq_emod_of_nonneg zO];omega
  have up1 : pickX Q ρ dn up s ev = Q + 1 → Ev (fun k => (dec_tidy.f k (dl m (Q / 10) ++ [(48 + ((((Q % 10 : Nat) : Int) + 1) % 256)) % 256]) e).bind fun b => some (b.1,b.2)) (outF (m,pickX Q ρ dn up s ev) e) := by
   intro hx;have := zVG m (Q / 10) (Q % 10 + 1) e hQ zO zO hm he he2 _ (zGZ (Q % 10) hn);rw [show 10 * (Q / 10) + (Q % 10 + 1) = pickX Q ρ dn up s ev by omega] at this;exact this
  have up0 : pickX Q ρ dn up s ev = Q → Ev (fun k => (dec_tidy.f k (dl m (Q / 10) ++ [(48 + ((Q % 10 : Nat) : Int)) % 256]) e).bind fun b => some (b.1,b.2)) (outF (m,pickX Q ρ dn up s ev) e) := by
   intro hx;have := zVG m (Q / 10) (Q % 10) e hQ zO zO hm he he2 _ (zGh (Q % 10) hn);rw [show 10 * (Q / 10) + Q % 10 = pickX Q ρ dn up s ev by omega] at this;exact this
  by_cases hf : Far ρ up s ev
  ·by_cases hl : Low ρ dn ev
   ·by_cases hc : c > 0
    ·obtain ⟨K3,h3⟩ := up1 (by unfold pickX;rw [if_pos ⟨hf,.inr (.inl zO)⟩]);refine ⟨K1 + K2 + K3 + 1,fun k hk => ?_⟩;dsimp only;(try dsimp only at h1);(try dsimp only at h2);(try dsimp only at h3);(try dsimp only at h4);obtain ⟨k',rfl⟩ : ∃ k',k = k' + 1 := ⟨k - 1,by omega⟩;rw [d_s.j6,if_neg (by decide),h1 k' zO,Option.bind_some,h2 k' zO,Option.bind_some,if_pos (decide_eq_true hf),if_pos (decide_eq_true hl),if_pos hc,if_pos hlen];exact h3 k' zO
    ·by_cases hc0 : c = 0
     ·by_cases ho : Int.tmod ((Q % 10 : Nat) : Int) 2 = 1
      ·obtain ⟨K3,h3⟩ := up1 (by unfold pickX;rw [if_pos ⟨hf,.inr (.inr ⟨by omega,hodd.1 ho⟩)⟩]);refine ⟨K1 + K2 + K3 + 1,fun k hk => ?_⟩;dsimp only;(try dsimp only at h1);(try dsimp only at h2);(try dsimp only at h3);(try dsimp only at h4);obtain ⟨k',rfl⟩ : ∃ k',k = k' + 1 := ⟨k - 1,by omega⟩;rw [d_s.j6,if_neg (by decide),h1 k' zO,Option.bind_some,h2 k' zO,Option.bind_some,if_pos (decide_eq_true hf),if_pos (decide_eq_true hl),if_neg hc,if_pos hc0,if_pos ho,if_pos hlen];exact h3 k' zO
      ·obtain ⟨K3,h3⟩ := up0 (by
        unfold pickX;rw [if_neg];rintro ⟨_,h | h | ⟨_,h⟩⟩
        ·exact h hl
        ·omega
        ·exact ho (hodd.2 h))
       refine ⟨K1 + K2 + K3 + 1,fun k hk => ?_⟩;dsimp only;(try dsimp only at h1);(try dsimp only at h2);(try dsimp only at h3);(try dsimp only at h4);obtain ⟨k',rfl⟩ : ∃ k',k = k' + 1 := ⟨k - 1,by omega⟩;rw [d_s.j6,if_neg (by decide),h1 k' zO,Option.bind_some,h2 k' zO,Option.bind_some,if_pos (decide_eq_true hf),if_pos (decide_eq_true hl),if_neg hc,if_pos hc0,if_neg ho,if_pos hlen];exact h3 k' zO
     ·obtain ⟨K3,h3⟩ := up0 (by
       unfold pickX;rw [if_neg];rintro ⟨_,h | h | ⟨h,_⟩⟩
       ·exact h hl
       ·omega
       ·omega)
      refine ⟨K1 + K2 + K3 + 1,fun k hk => ?_⟩;dsimp only;(try dsimp only at h1);(try dsimp only at h2);(try dsimp only at h3);(try dsimp only at h4);obtain ⟨k',rfl⟩ : ∃ k',k = k' + 1 := ⟨k - 1,by omega⟩;rw [d_s.j6,if_neg (by decide),h1 k' zO,Option.bind_some,h2 k' zO,Option.bind_some,if_pos (decide_eq_true hf),if_pos (decide_eq_true hl),if_neg hc,if_neg hc0,if_pos hlen];exact h3 k' zO
   ·obtain ⟨K3,h3⟩ := up1 (by unfold pickX;rw [if_pos ⟨hf,.inl hl⟩]);refine ⟨K1 + K2 + K3 + 1,fun k hk => ?_⟩;dsimp only;(try dsimp only at h1);(try dsimp only at h2);(try dsimp only at h3);(try dsimp only at h4);obtain ⟨k',rfl⟩ : ∃ k',k = k' + 1 := ⟨k - 1,by omega⟩;rw [d_s.j6,if_neg (by decide),h1 k' zO,Option.bind_some,h2 k' zO,Option.bind_some,if_pos (decide_eq_true hf),if_neg (by rw [decide_eq_false hl];decide),if_pos hlen];exact h3 k' zO
  ·obtain ⟨K3,h3⟩ := up0 (by unfold pickX;rw [if_neg (fun h => hf h.1)]);refine ⟨K1 + K2 + K3 + 1,fun k hk => ?_⟩;dsimp only;(try dsimp only at h1);(try dsimp only at h2);(try dsimp only at h3);(try dsimp only at h4);obtain ⟨k',rfl⟩ : ∃ k',k = k' + 1 := ⟨k - 1,by omega⟩;rw [d_s.j6,if_neg (by decide),h1 k' zO,Option.bind_some,h2 k' zO,Option.bind_some,if_neg (by rw [decide_eq_false hf];decide),if_pos hlen];exact h3 k' zO
 refine Ev.step (fun k => ?_) main;rw [d_s.j5];by_cases hl : Low ρ dn ev
 ·rw [if_pos (decide_eq_true hl)]
 ·have hf : Far ρ up s ev := hstop.resolve_left hl;rw [if_neg (by rw [decide_eq_false hl];decide),decide_eq_true hf]
  rfl
theorem on_ev (m Q ρ dn up s M : Nat) (ev : Bool) (e : Int) (r : ByteArray × Int) (hM : M ≤ 800000) (hρ : ρ < 2 ^ M) (hd : dn < 2 ^ M) (hu : up < 2 ^ M) (hm : m ≤ 1000) (hstop : ¬ Stop ρ dn up s ev)
  (h : Ev (fun k => d_s.l2 k e (dl (m + 1) Q) (toB (ρ * 10)) (toB s) (toB (dn * 10)) (toB (up * 10)) ev) r) :
  Ev (fun k => d_s.j5 k e (dl m (Q / 10)) ((Q % 10 : Nat) : Int) (decide (Low ρ dn ev)) (decide (Far ρ up s ev)) (toB ρ) (toB s) (toB dn) (toB up) ev) r := by
 (have hn : Q % 10 ≤ 9 := by have := Nat.mod_lt Q (show 0 < 10 by decide);omega);(have hl : ¬ Low ρ dn ev := fun h => hstop (.inl h));(have hf : ¬ Far ρ up s ev := fun h => hstop (.inr h));have l1 := zXv hρ zO;have l2 := zXv hd zO;have l3 := zXv hu zO;obtain ⟨K1,h1⟩ := zYN ρ zO;obtain ⟨K2,h2⟩ := zYN dn zO;obtain ⟨K3,h3⟩ := zYN up zO;obtain ⟨K4,h4⟩ := h;have hlen : (dl m (Q / 10)).length < 140737488355328 := by rw [zXd];omega
 have eL : dl m (Q / 10) ++ [(48 + ((Q % 10 : Nat) : Int)) % 256] = dl (m + 1) Q := by
  rw [zGh _ hn,dl]
  rfl
 refine ⟨K1 + K2 + K3 + K4 + 2,fun k hk => ?_⟩;dsimp only;(try dsimp only at h1);(try dsimp only at h2);(try dsimp only at h3);(try dsimp only at h4);obtain ⟨k',rfl⟩ : ∃ k',k = k' + 1 + 1 := ⟨k - 2,by omega⟩;have g1 := h1 k' zO;have g2 := h2 k' zO;have g3 := h3 k' zO;have g4 := h4 k' zO;rw [d_s.j5,if_neg (by rw [decide_eq_false hl];decide),decide_eq_false hf,d_s.j6,if_pos (show (!false) = true from rfl),if_pos hlen];rw [g1,Option.bind_some,g2,Option.bind_some,g3,Option.bind_some,eL];exact g4
theorem zBA (ρ dn up s M : Nat) (ev : Bool) (e : Int) (x8 : List Int) (n : Nat) (hn : n ≤ 9) (r : ByteArray × Int) (hM : M ≤ 800000) (hρ : ρ < s) (hs : 16 * s < 2 ^ M) (hd : dn < 2 ^ M) (hu : up < 2 ^ M)
  (h : Ev (fun k => d_s.j5 k e x8 (n : Int) (decide (Low ρ dn ev)) (decide (Far ρ up s ev)) (toB ρ) (toB s) (toB dn) (toB up) ev) r) :
  ∀ d c : Nat,c + d = n → Ev (fun k => d_s.l3 k e x8 (c : Int) (toB (d * s + ρ)) (toB s) (toB dn) (toB up) ev) r
 | 0,c,hc => by
  (obtain rfl : c = n := by omega);rw [Nat.zero_mul,Nat.zero_add];have l1 := zXv (show ρ < 2 ^ M by omega) zO;have l2 := zXv (show s < 2 ^ M by omega) zO;have l3 := zXv hd zO;obtain ⟨c1,⟨K1,h1⟩,a1,a2⟩ := zJu ρ s zO zO;obtain ⟨c2,⟨K2,h2⟩,b1,b2⟩ := zJu ρ dn zO zO;obtain ⟨K3,h3⟩ := zZC ρ up s M ev zO zO hu zO;obtain ⟨K4,h4⟩ := h;refine ⟨K1 + K2 + K3 + K4 + 1,fun k hk => ?_⟩;dsimp only;(try dsimp only at h1);(try dsimp only at h2);(try dsimp only at h3);(try dsimp only at h4);obtain ⟨k',rfl⟩ : ∃ k',k = k' + 1 := ⟨k - 1,by omega⟩;have g4 := h4 k' zO;rw [d_s.l3,h1 k' zO,Option.bind_some,if_neg zO,h2 k' zO,Option.bind_some,h3 k' zO,Option.bind_some,Option.bind_some,Option.bind_some];by_cases hlt : c2 < 0
  ·rw [if_pos hlt];rw [decide_eq_true (show Low ρ dn ev from .inl (b1.1 hlt))] at g4;exact g4
  ·rw [if_neg hlt]
   cases ev with
   | true =>
    rw [if_pos rfl]
    have e1 : (c2 == 0) = decide (Low ρ dn true) := by
     rw [show (c2 == 0) = decide (c2 = 0) from rfl]
     refine decide_eq_decide.2 ?_
     unfold Low;simp only [and_true];omega
    rw [e1];exact g4
   | false =>
    rw [if_neg (by decide)]
    have e1 : decide (Low ρ dn false) = false := by
     refine decide_eq_false ?_
     unfold Low;simp only [Bool.false_eq_true,and_false,or_false];omega
    rw [e1] at g4;exact g4
 | d + 1,c,hc => by
  have hds : d ≤ 9 := by omega
  have hsum : (d + 1) * s + ρ < 2 ^ M := by
   have : (d + 1) * s ≤ 10 * s := Nat.mul_le_mul_right _ zO;omega
  have l1 := zXv hsum zO;have l2 := zXv (show s < 2 ^ M by omega) zO;(have hge : s ≤ (d + 1) * s + ρ := by rw [Nat.succ_mul];omega);obtain ⟨c1,⟨K1,h1⟩,a1,a2⟩ := zJu ((d + 1) * s + ρ) s zO zO;obtain ⟨K2,h2⟩ := zGG ((d + 1) * s + ρ) s hge zO;obtain ⟨K3,h3⟩ := zBA ρ dn up s M ev e x8 n hn r hM hρ hs hd hu h d (c + 1) zO;refine ⟨K1 + K2 + K3 + 1,fun k hk => ?_⟩;dsimp only;(try dsimp only at h1);(try dsimp only at h2);(try dsimp only at h3);(try dsimp only at h4);obtain ⟨k',rfl⟩ : ∃ k',k = k' + 1 := ⟨k - 1,by omega⟩;have g2 := h2 k' zO;rw [show (d + 1) * s + ρ - s = d * s + ρ by rw [Nat.succ_mul];omega] at g2;rw [d_s.l3,h1 k' zO,Option.bind_some,if_pos zO,g2,Option.bind_some,show (((c : Int) + 1) % 256) = ((c + 1 : Nat) : Int) by omega];exact h3 k' zO
theorem zBR (T s : Nat) (hs : 0 < s) : T * 10 / s / 10 = T / s ∧ (T * 10 / s % 10) * s + T * 10 % s = (T % s) * 10 := by
 have hρ := Nat.mod_lt T hs;have hT := Nat.div_add_mod T s;have h10 := Nat.div_add_mod (T % s * 10) s
 have e1 : T * 10 = T % s * 10 + s * (10 * (T / s)) := by
  rw [Nat.mul_left_comm];omega
 have hlt : T % s * 10 / s < 10 := Nat.div_lt_of_lt_mul zO;(have e2 : T * 10 / s = T % s * 10 / s + 10 * (T / s) := by rw [e1,Nat.add_mul_div_left _ _ hs]);(have e3 : T * 10 % s = T % s * 10 % s := by rw [e1,Nat.add_mul_mod_self_left]);rw [e2,e3];obtain ⟨x,hx⟩ : ∃ x,x = T % s * 10 / s := ⟨_,rfl⟩;rw [← hx] at hlt h10 ⊢;generalize T / s = y;constructor
 ·omega
 ·rw [show (x + 10 * y) % 10 = x by omega,Nat.mul_comm];exact h10
theorem zHi {x a b M : Nat} (h : x * 10 ^ b < 2 ^ M) (hab : a ≤ b) : x * 10 ^ a < 2 ^ M := Nat.lt_of_le_of_lt (Nat.mul_le_mul_left _ (Nat.pow_le_pow_right (by decide) hab)) h
theorem zHn (r s dn up M : Nat) (ev : Bool) (e : Int) (hs : 0 < s) (hr : r < 10 * s) (hM : M ≤ 800000) (hsM : 16 * s < 2 ^ M) (he : -100000 ≤ e) (he2 : e ≤ 100000) :
  ∀ n m : Nat,m + n ≤ 1000 → dn * 10 ^ (m + n) < 2 ^ M → up * 10 ^ (m + n) < 2 ^ M → (∃ j,m ≤ j ∧ j < m + n ∧ Stop (r * 10 ^ j % s) (dn * 10 ^ j) (up * 10 ^ j) s ev) →
  (s ≤ r ∨ (m = 0 ∧ Stop (r * 10 ^ 0 % s) (dn * 10 ^ 0) (up * 10 ^ 0) s ev ∧ 1 ≤ pickX (r * 10 ^ 0 / s) (r * 10 ^ 0 % s) (dn * 10 ^ 0) (up * 10 ^ 0) s ev)) →
  Ev (fun k => d_s.l2 k e (dl m (r * 10 ^ m / s / 10)) (toB ((r * 10 ^ m / s % 10) * s + r * 10 ^ m % s)) (toB s) (toB (dn * 10 ^ m)) (toB (up * 10 ^ m)) ev) (outF (gen r s dn up ev n m) e)
 | 0,m,_,_,_,h,_ => by obtain ⟨j,h1,h2,_⟩ := h;omega
 | n + 1,m,hmn,hd,hu,h,h0 => by
  have hρ := Nat.mod_lt (r * 10 ^ m) hs
  have hQ : r * 10 ^ m / s / 10 < 10 ^ m := by
   rw [Nat.div_div_eq_div_mul]
   refine Nat.div_lt_of_lt_mul ?_
   rw [Nat.mul_comm s 10];exact Nat.mul_lt_mul_of_pos_right hr (Nat.pow_pos (by decide))
  (have hn9 : r * 10 ^ m / s % 10 ≤ 9 := by have := Nat.mod_lt (r * 10 ^ m / s) (show 0 < 10 by decide);omega);have hdm := zHi hd (Nat.le_add_right m (n + 1));have hum := zHi hu (Nat.le_add_right m (n + 1))
  have main : Ev (fun k => d_s.j5 k e (dl m (r * 10 ^ m / s / 10)) ((r * 10 ^ m / s % 10 : Nat) : Int) (decide (Low (r * 10 ^ m % s) (dn * 10 ^ m) ev)) (decide (Far (r * 10 ^ m % s) (up * 10 ^ m) s ev)) (toB (r * 10 ^ m % s)) (toB s) (toB (dn * 10 ^ m)) (toB (up * 10 ^ m)) ev) (outF (gen r s dn up ev (n + 1) m) e) := by
   rw [gen];by_cases hst : Stop (r * 10 ^ m % s) (dn * 10 ^ m) (up * 10 ^ m) s ev
   ·rw [if_pos hst]
    refine zFB m (r * 10 ^ m / s) (r * 10 ^ m % s) (dn * 10 ^ m) (up * 10 ^ m) s M ev e hM zO zO hQ zO he he2 hst ?_
    rcases h0 with h0 | ⟨h0,h1,h2⟩
    ·have : 10 ^ m ≤ r * 10 ^ m / s := by
      rw [Nat.le_div_iff_mul_le hs,Nat.mul_comm];exact Nat.mul_le_mul_right _ h0
     unfold pickX;split <;> omega
    ·rw [h0,Nat.pow_zero];rw [Nat.pow_zero] at h2;exact h2
   ·rw [if_neg hst];have hnx := zBR (r * 10 ^ m) s hs;rw [Nat.mul_assoc,← Nat.pow_succ] at hnx
    refine on_ev m (r * 10 ^ m / s) (r * 10 ^ m % s) (dn * 10 ^ m) (up * 10 ^ m) s M ev e _ hM zO hdm hum zO hst ?_
    have ih := zHn r s dn up M ev e hs hr hM hsM he he2 n (m + 1) zO (by rw [show m + 1 + n = m + (n + 1) by omega];exact hd) (by rw [show m + 1 + n = m + (n + 1) by omega];exact hu) ?_ ?_
    ·rw [hnx.1,hnx.2,Nat.pow_succ,← Nat.mul_assoc,← Nat.mul_assoc] at ih;exact ih
    ·obtain ⟨j,h1,h2,h3⟩ := h;(have hj : m ≠ j := fun hj => hst (hj ▸ h3));exact ⟨j,by omega,by omega,h3⟩
    ·rcases h0 with h0 | ⟨h0,h1,_⟩
     ·exact .inl h0
     ·rw [h0] at hst;exact absurd h1 hst
  have hc := zBA (r * 10 ^ m % s) (dn * 10 ^ m) (up * 10 ^ m) s M ev e (dl m (r * 10 ^ m / s / 10)) (r * 10 ^ m / s % 10) hn9 _ hM hρ hsM hdm hum main (r * 10 ^ m / s % 10) 0 zO;refine Ev.step (fun k => ?_) hc;rw [d_s.l2]
  rfl
theorem zVK {r up s : Nat} {ev : Bool} : Far (r * 10) (up * 10) (s * 10) ev ↔ Far r up s ev := by
 unfold Far;constructor
 ·rintro (h | ⟨h,h2⟩)
  ·exact .inl zO
  ·exact .inr ⟨by omega,h2⟩
 ·rintro (h | ⟨h,h2⟩)
  ·exact .inl zO
  ·exact .inr ⟨by omega,h2⟩
theorem zBx {r up s : Nat} {ev : Bool} (h : ¬ Far r up s ev) : r + up ≤ s := Nat.le_of_not_lt (fun g => h (.inl g))
theorem zFa (R S D U q M : Nat) (ev : Bool) (hU : 0 < U) (hD : D ≤ R) (hM : M ≤ 800000) (hsM : 16 * (S * 10 ^ q) < 2 ^ M) (hq : q ≤ 50000) :
  ∀ d p : Nat,p + d ≤ 50000 → S * 10 ^ q ≤ R * 10 ^ (p + d) → ¬ Far (R * 10 ^ p) (U * 10 ^ p) (S * 10 ^ (q + 1)) ev →
  ∃ p',p ≤ p' ∧ p' ≤ p + d ∧ Far (R * 10 ^ p') (U * 10 ^ p') (S * 10 ^ q) ev ∧ ¬ Far (R * 10 ^ p') (U * 10 ^ p') (S * 10 ^ (q + 1)) ev ∧
   ∀ res,Ev (fun k => d_s.l2 k ((q : Int) - p') ([] : List Int) (toB (R * 10 ^ p')) (toB (S * 10 ^ q)) (toB (D * 10 ^ p')) (toB (U * 10 ^ p')) ev) res →
    Ev (fun k => d_s.l1 k ((q : Int) - p) (toB (R * 10 ^ p)) (toB (S * 10 ^ q)) (toB (D * 10 ^ p)) (toB (U * 10 ^ p)) ev) res := by
 intro d
 induction d with
 | zero =>
  intro p hp hd hn;have hle := zBx hn;rw [Nat.pow_succ,← Nat.mul_assoc] at hle;have hU2 : 0 < U * 10 ^ p := Nat.mul_pos hU (zQE p);have hf : Far (R * 10 ^ p) (U * 10 ^ p) (S * 10 ^ q) ev := .inl (by rw [Nat.add_zero] at hd;omega);refine ⟨p,Nat.le_refl _,Nat.le_refl _,hf,hn,fun res h => ?_⟩;obtain ⟨K1,h1⟩ := zZC (R * 10 ^ p) (U * 10 ^ p) (S * 10 ^ q) M ev zO zO zO zO;obtain ⟨K2,h2⟩ := h;refine ⟨K1 + K2 + 1,fun k hk => ?_⟩;dsimp only at h1 h2 ⊢;obtain ⟨k',rfl⟩ : ∃ k',k = k' + 1 := ⟨k - 1,by omega⟩;rw [d_s.l1,h1 k' zO,Option.bind_some,if_pos (decide_eq_true hf)];exact h2 k' zO
 | succ d ih =>
  intro p hp hd hn;have hle := zBx hn;rw [Nat.pow_succ,← Nat.mul_assoc] at hle;have hDp : D * 10 ^ p ≤ R * 10 ^ p := Nat.mul_le_mul_right _ hD;by_cases hf : Far (R * 10 ^ p) (U * 10 ^ p) (S * 10 ^ q) ev
  ·refine ⟨p,Nat.le_refl _,by omega,hf,hn,fun res h => ?_⟩;obtain ⟨K1,h1⟩ := zZC (R * 10 ^ p) (U * 10 ^ p) (S * 10 ^ q) M ev zO zO zO zO;obtain ⟨K2,h2⟩ := h;refine ⟨K1 + K2 + 1,fun k hk => ?_⟩;dsimp only at h1 h2 ⊢;obtain ⟨k',rfl⟩ : ∃ k',k = k' + 1 := ⟨k - 1,by omega⟩;rw [d_s.l1,h1 k' zO,Option.bind_some,if_pos (decide_eq_true hf)];exact h2 k' zO
  ·obtain ⟨p',g1,g2,g3,g4,g5⟩ := ih (p + 1) zO (by rw [show p + 1 + d = p + (d + 1) by omega];exact hd) (by
    rw [Nat.pow_succ,Nat.pow_succ,← Nat.mul_assoc,← Nat.mul_assoc,← Nat.mul_assoc,zVK]
    exact hf)
   refine ⟨p',by omega,by omega,g3,g4,fun res h => ?_⟩;obtain ⟨K0,h0⟩ := g5 res h;obtain ⟨K1,h1⟩ := zZC (R * 10 ^ p) (U * 10 ^ p) (S * 10 ^ q) M ev zO zO zO zO;obtain ⟨K2,h2⟩ := zYN (R * 10 ^ p) (by have := zXv (show R * 10 ^ p < 2 ^ M by omega) zO;omega);obtain ⟨K3,h3⟩ := zYN (D * 10 ^ p) (by have := zXv (show D * 10 ^ p < 2 ^ M by omega) zO;omega);obtain ⟨K4,h4⟩ := zYN (U * 10 ^ p) (by have := zXv (show U * 10 ^ p < 2 ^ M by omega) zO;omega);refine ⟨K0 + K1 + K2 + K3 + K4 + 1,fun k hk => ?_⟩;dsimp only at h0 h1 h2 h3 h4 ⊢;obtain ⟨k',rfl⟩ : ∃ k',k = k' + 1 := ⟨k - 1,by omega⟩;have g0 := h0 k' zO;rw [Nat.pow_succ,← Nat.mul_assoc,← Nat.mul_assoc,← Nat.mul_assoc] at g0;rw [d_s.l1,h1 k' zO,Option.bind_some,if_neg (by rw [decide_eq_false hf];decide),h2 k' zO,Option.bind_some,h3 k' zO,Option.bind_some,h4 k' zO,Option.bind_some,wrapB _ zO zO,show (q : Int) - p - 1 = (q : Int) - ((p + 1 : Nat) : Int) by omega];exact g0
theorem zFp (R S D U p M : Nat) (ev : Bool) (hM : M ≤ 800000) (hrM : R * 10 ^ p + U * 10 ^ p < 2 ^ M) (hp : p ≤ 50000) :
  ∀ d q : Nat,q + d ≤ 50000 → R * 10 ^ p + U * 10 ^ p < S * 10 ^ (q + 1 + d) → S * 10 ^ q < 2 ^ M →
  ∃ q',q ≤ q' ∧ q' ≤ q + d ∧ S * 10 ^ q' < 2 ^ M ∧ ¬ Far (R * 10 ^ p) (U * 10 ^ p) (S * 10 ^ (q' + 1)) ev ∧
   ∀ res,Ev (fun k => d_s.l1 k ((q' : Int) - p) (toB (R * 10 ^ p)) (toB (S * 10 ^ q')) (toB (D * 10 ^ p)) (toB (U * 10 ^ p)) ev) res →
    Ev (fun k => d_s.l0 k ((q : Int) - p) (toB (R * 10 ^ p)) (toB (S * 10 ^ q)) (toB (D * 10 ^ p)) (toB (U * 10 ^ p)) ev) res := by
 intro d
 induction d with
 | zero =>
  intro q hq hd hsM
  have hn : ¬ Far (R * 10 ^ p) (U * 10 ^ p) (S * 10 ^ (q + 1)) ev := by
   unfold Far;rw [Nat.add_zero] at hd;omega
  refine ⟨q,Nat.le_refl _,Nat.le_refl _,hsM,hn,fun res h => ?_⟩;(have e10 : S * 10 ^ q * 10 = S * 10 ^ (q + 1) := by rw [Nat.pow_succ,Nat.mul_assoc]);(have hb : S * 10 ^ (q + 1) < 2 ^ (M + 4) := by rw [← e10,Nat.pow_add];omega);obtain ⟨K1,h1⟩ := zZC (R * 10 ^ p) (U * 10 ^ p) (S * 10 ^ (q + 1)) (M + 4) ev zO (by rw [Nat.pow_add];omega) (by rw [Nat.pow_add];omega) hb;obtain ⟨K2,h2⟩ := zYN (S * 10 ^ q) (by have := zXv hsM zO;omega);obtain ⟨K3,h3⟩ := h;refine ⟨K1 + K2 + K3 + 1,fun k hk => ?_⟩;dsimp only at h1 h2 h3 ⊢;obtain ⟨k',rfl⟩ : ∃ k',k = k' + 1 := ⟨k - 1,by omega⟩;rw [d_s.l0,h2 k' zO,Option.bind_some,e10,h1 k' zO,Option.bind_some,if_neg (by rw [decide_eq_false hn];decide)];exact h3 k' zO
 | succ d ih =>
  intro q hq hd hsM;(have e10 : S * 10 ^ q * 10 = S * 10 ^ (q + 1) := by rw [Nat.pow_succ,Nat.mul_assoc]);(have hb : S * 10 ^ (q + 1) < 2 ^ (M + 4) := by rw [← e10,Nat.pow_add];omega);obtain ⟨K1,h1⟩ := zZC (R * 10 ^ p) (U * 10 ^ p) (S * 10 ^ (q + 1)) (M + 4) ev zO (by rw [Nat.pow_add];omega) (by rw [Nat.pow_add];omega) hb;obtain ⟨K2,h2⟩ := zYN (S * 10 ^ q) (by have := zXv hsM zO;omega);dsimp only at h1 h2;by_cases hf : Far (R * 10 ^ p) (U * 10 ^ p) (S * 10 ^ (q + 1)) ev
  ·have hle : S * 10 ^ (q + 1) ≤ R * 10 ^ p + U * 10 ^ p := by
    rcases hf with hf | hf
    ·exact Nat.le_of_lt hf
    ·exact Nat.le_of_eq hf.1
   obtain ⟨q',g1,g2,g3,g4,g5⟩ := ih (q + 1) zO (by rw [show q + 1 + 1 + d = q + 1 + (d + 1) by omega];exact hd) zO;refine ⟨q',by omega,by omega,g3,g4,fun res h => ?_⟩;obtain ⟨K3,h3⟩ := g5 res h;refine ⟨K1 + K2 + K3 + 1,fun k hk => ?_⟩;dsimp only at h3 ⊢;obtain ⟨k',rfl⟩ : ∃ k',k = k' + 1 := ⟨k - 1,by omega⟩;rw [d_s.l0,h2 k' zO,Option.bind_some,e10,h1 k' zO,Option.bind_some,if_pos (decide_eq_true hf),Option.bind_some,wrapB _ zO zO,show (q : Int) - p + 1 = ((q + 1 : Nat) : Int) - p by omega];exact h3 k' zO
  ·refine ⟨q,Nat.le_refl _,by omega,hsM,hf,fun res h => ?_⟩;obtain ⟨K3,h3⟩ := h;refine ⟨K1 + K2 + K3 + 1,fun k hk => ?_⟩;dsimp only at h3 ⊢;obtain ⟨k',rfl⟩ : ∃ k',k = k' + 1 := ⟨k - 1,by omega⟩;rw [d_s.l0,h2 k' zO,Option.bind_some,e10,h1 k' zO,Option.bind_some,if_neg (by rw [decide_eq_false hf];decide)];exact h3 k' zO
end Go.Proofs.YtongfmeediokmaaGreatDoor.Pure
end
section
namespace Go.Proofs.YtongfmeediokmaaGreatDoor.Flo
theorem zHC {n j q P M : Nat} (hu : units n = q * 2 ^ j) (hu1 : units (n + 1) = (q + 1) * 2 ^ j) (hd : units n - units (n - 1) = 2 ^ j) (hM : 0 < M) (hK : P * K = 2 * 2 ^ j * M) : Sp n (q * 2 * P) (2 * M) P P := by
 refine ⟨by omega,?_,?_,?_⟩
 ·rw [Nat.mul_assoc,hK,hu,Nat.mul_assoc q 2,Nat.mul_left_comm q 2,Nat.mul_assoc 2 (q * 2 ^ j),Nat.mul_assoc q (2 ^ j),Nat.mul_assoc 2 (2 ^ j) M,Nat.mul_left_comm (2 ^ j) 2 M]
 ·rw [hK,hd,Nat.mul_left_comm,Nat.mul_assoc]
 ·rw [hK,hu,hu1,Nat.add_mul,Nat.one_mul,Nat.add_sub_cancel_left,Nat.mul_left_comm,Nat.mul_assoc]
theorem zHD {n j q P M : Nat} (hu : units n = q * 2 ^ j) (hu1 : units (n + 1) = (q + 1) * 2 ^ j) (hd : 2 * (units n - units (n - 1)) = 2 ^ j) (hM : 0 < M) (hK : P * K = 2 * 2 ^ j * M) : Sp n (q * 4 * P) (4 * M) P (2 * P) := by
 refine ⟨by omega,?_,?_,?_⟩
 ·rw [Nat.mul_assoc,hK,hu];generalize 2 ^ j = J;rw [show 2 * J * M = 2 * (J * M) from Nat.mul_assoc _ _ _,show 2 * (q * J) * (4 * M) = 2 * (4 * (q * (J * M))) by rw [Nat.mul_assoc,Nat.mul_left_comm (q * J) 4,Nat.mul_assoc q]];rw [show q * 4 * (2 * (J * M)) = 4 * (2 * (q * (J * M))) by rw [Nat.mul_comm q 4,Nat.mul_assoc,Nat.mul_left_comm q 2]];omega
 ·rw [hK,← hd];generalize units n - units (n - 1) = J;rw [show 2 * (2 * J) * M = 4 * (J * M) by rw [← Nat.mul_assoc,Nat.mul_assoc],Nat.mul_left_comm]
 ·rw [Nat.mul_assoc,hK,hu,hu1,Nat.add_mul,Nat.one_mul,Nat.add_sub_cancel_left];generalize 2 ^ j = J;rw [show 2 * (2 * J * M) = 4 * (J * M) by rw [Nat.mul_assoc 2 J M,← Nat.mul_assoc 2 2],Nat.mul_left_comm]
theorem zHf (j : Nat) (e : Int) (he : (j : Int) = e + 1074) : 2 ^ e.toNat * K = 2 * 2 ^ j * 2 ^ (-e).toNat := by
 obtain ⟨E,hE,hK⟩ := K_exp;rw [hK,← Nat.pow_add,Nat.mul_comm 2,← Nat.pow_succ,← Nat.pow_add,show e.toNat + E = j + 1 + (-e).toNat by omega]
end Go.Proofs.YtongfmeediokmaaGreatDoor.Flo
end
section
namespace Go.Proofs.YtongfmeediokmaaGreatDoor.Pure
open Go.RowKit YtongfmeediokmaaGreatDoor.Pr YtongfmeediokmaaGreatDoorW.PrintWords YtongfmeediokmaaGreatDoorW.PrintLast YtongfmeediokmaaGreatDoorW.PrintMore YtongfmeediokmaaGreatDoor.Flo
theorem zWu {a : Nat} (h0 : 0 < rung a) (h1 : rung a < INF) : kindV a = if rung a < 4503599627370496 then 1 else 2 := by
 unfold INF at h1;unfold kindV nanB infB;rw [if_neg (by rw [decide_eq_true_iff];omega),if_neg zO,if_neg (by rw [decide_eq_true_iff];omega)]
theorem zWC (a : Nat) (h : a < 18446744073709551616) : Go.bits .and .u64 (a : Int) 2047 = ((a % 2048 : Nat) : Int) := by
 have := zYY a 2047 h (by decide);rw [show (2047 : Nat) = 2 ^ 11 - 1 from rfl,Nat.and_two_pow_sub_one_eq_mod] at this;exact this
theorem zVB (b : Nat) (h : b < 4503599627370496) : Go.bits .or .u64 (b : Int) 4503599627370496 = ((4503599627370496 + b : Nat) : Int) := by
 have h1 := zYS b 4503599627370496 zO (by decide);have h2 := Nat.two_pow_add_eq_or_of_lt (i := 52) h 1;rw [Nat.mul_one] at h2;rw [Nat.or_comm,show (4503599627370496 : Nat) = 2 ^ 52 from rfl,← h2] at h1;exact h1
theorem zGB (a : Nat) (ha : a < 18446744073709551616) (h0 : 0 < rung a) (h1 : rung a < INF) : ∃ (j q : Nat) (b : Bool),rung a = j * 4503599627370496 + q ∧ q < 9007199254740992 ∧ (j = 0 ∨ 4503599627370496 ≤ q) ∧ j ≤ 2045 ∧ flo_Parts.f (a : Int) = some (b,(j : Int) - 1074,(q : Int)) := by
 have hk : flo_kind.f (a : Int) = some (kindV a) := by
  unfold flo_kind.f;rw [if_pos zO,Int.toNat_natCast]
 have hf := zWu h0 h1;have hr : rung a = a % 9223372036854775808 := rfl;unfold INF at h1;by_cases h : rung a < 4503599627370496
 ·rw [if_pos h] at hf;refine ⟨0,rung a,((a : Int) / 9223372036854775808 == 1),by omega,by omega,.inl rfl,by omega,?_⟩;rw [flo_Parts.f,hk,hf,Option.bind_some,if_pos rfl,zZu a ha,show a % 4503599627370496 = rung a by omega]
  rfl
 ·rw [if_neg h] at hf;refine ⟨rung a / 4503599627370496 - 1,4503599627370496 + a % 4503599627370496,((a : Int) / 9223372036854775808 == 1),by omega,by omega,.inr zO,by omega,?_⟩;(have e1 : ((a : Int) / 4503599627370496) = ((a / 4503599627370496 : Nat) : Int) := by omega);rw [flo_Parts.f,hk,hf,Option.bind_some,if_neg (by decide),if_pos rfl,zZu a ha,zVB _ zO,e1,zWC _ zO,wrapB ((a / 4503599627370496 % 2048 : Nat) : Int) zO zO,wrapB _ zO zO,show (((a / 4503599627370496 % 2048 : Nat) : Int) - 1075) = ((rung a / 4503599627370496 - 1 : Nat) : Int) - 1074 by omega]
theorem of_ev (n : Nat) (h : n < 18446744073709551616) : Ev (fun k => dec_of.f k (n : Int)) (toB n) := by
 have hp : Parts [(n : Int) % 4294967296,((n : Int) / 4294967296) % 4294967296] := by
  intro x hx;rcases List.mem_cons.1 hx with rfl | hx
  ·omega
  ·rw [List.mem_singleton.1 hx];omega
 have hv : valB [(n : Int) % 4294967296,((n : Int) / 4294967296) % 4294967296] = n := by
  simp only [valB];omega
 have ht := zZX 2 _ rfl hp (by decide);rw [hv] at ht;have h1 : Ev (fun k => b_trim.f k [(n : Int) % 4294967296,((n : Int) / 4294967296) % 4294967296]) (toB n) := Ev.congr (fun k => rfl) ht;have h2 : Ev (fun k => (b_trim.f k [(n : Int) % 4294967296,((n : Int) / 4294967296) % 4294967296]).bind fun t => some t) (toB n) := Ev.bind h1 (Ev.now _);exact Ev.congr (fun k => rfl) h2
theorem zWN (e : Int) (x s d u B : Nat) (hx : x ≠ 0) (hs : s ≠ 0) (hd : d ≠ 0) (hu : u ≠ 0) (he : -1074 ≤ e) (he2 : e ≤ 971) (hx2 : x < 2 ^ B) (hs2 : s < 2 ^ B) (hd2 : d < 2 ^ B) (hu2 : u < 2 ^ B) (hB : B ≤ 100) :
  Ev (fun k => dec_spans.j1 k e (toB x) (toB s) (toB d) (toB u)) (toB (x * 2 ^ e.toNat),toB (s * 2 ^ (-e).toNat),toB (d * 2 ^ e.toNat),toB (u * 2 ^ e.toNat)) := by
 have l1 := zXK hx2;have l2 := zXK hs2;have l3 := zXK hd2;have l4 := zXK hu2;by_cases h : e ≥ 0
 ·obtain ⟨K1,h1⟩ := up_ev x e.toNat (.inl hx) zO;obtain ⟨K2,h2⟩ := up_ev d e.toNat (.inl hd) zO;obtain ⟨K3,h3⟩ := up_ev u e.toNat (.inl hu) zO;refine ⟨K1 + K2 + K3 + 1,fun k hk => ?_⟩;dsimp only at h1 h2 h3 ⊢;obtain ⟨k',rfl⟩ : ∃ k',k = k' + 1 := ⟨k - 1,by omega⟩;have g1 := h1 k' zO;have g2 := h2 k' zO;have g3 := h3 k' zO;rw [show ((e.toNat : Nat) : Int) = e by omega] at g1 g2 g3;rw [dec_spans.j1,if_pos h,g1,Option.bind_some,g2,Option.bind_some,g3,Option.bind_some,show (-e).toNat = 0 by omega,Nat.pow_zero,Nat.mul_one]
 ·obtain ⟨K1,h1⟩ := up_ev s (-e).toNat (.inl hs) zO;refine ⟨K1 + 1,fun k hk => ?_⟩;dsimp only at h1 ⊢;obtain ⟨k',rfl⟩ : ∃ k',k = k' + 1 := ⟨k - 1,by omega⟩;have g1 := h1 k' zO;rw [show (((-e).toNat : Nat) : Int) = -e by omega] at g1;rw [dec_spans.j1,if_neg h,wrapB _ zO zO,g1,Option.bind_some,show e.toNat = 0 by omega,Nat.pow_zero,Nat.mul_one,Nat.mul_one,Nat.mul_one]
theorem zBI {n j : Nat} (h : n = j * 4503599627370496 + 4503599627370496) (hj : 0 < j) : 2 * (units n - units (n - 1)) = 2 ^ j := by
 obtain ⟨i,rfl⟩ : ∃ i,j = i + 1 := ⟨j - 1,by omega⟩;have e0 : units n = 4503599627370496 * 2 ^ (i + 1) := by rw [h];exact zXy (i + 1) 4503599627370496 zO (.inr zO)
 have e1 : units (n - 1) = 9007199254740991 * 2 ^ i := by
  rw [show n - 1 = i * 4503599627370496 + 9007199254740991 by omega];exact zXy i 9007199254740991 zO (.inr zO)
 rw [e0,e1,Nat.pow_succ];omega
theorem lt_up {x a b B : Nat} (h : x < 2 ^ a) (hb : a + b ≤ B) : x * 2 ^ b < 2 ^ B := by
 refine Nat.lt_of_lt_of_le (Nat.mul_lt_mul_of_pos_right h (Nat.two_pow_pos b)) ?_
 rw [← Nat.pow_add];exact Nat.pow_le_pow_right (by decide) hb
theorem zGs (a : Nat) (ha : a < 18446744073709551616) (h0 : 0 < rung a) (h1 : rung a < INF) (B : Nat) (hB : B = 1100) :
  ∃ R S D U : Nat,Sp (rung a) R S D U ∧ R < 2 ^ B ∧ S < 2 ^ B ∧ D < 2 ^ B ∧ U < 2 ^ B ∧ Ev (fun k => dec_spans.f k (a : Int)) (toB R,toB S,toB D,toB U) := by
 obtain ⟨j,q,b,hr,hq,hjq,hj,hp⟩ := zGB a ha h0 h1;obtain ⟨n,hn⟩ : ∃ n,n = rung a := ⟨_,rfl⟩;rw [← hn] at hr h0 h1 ⊢;obtain ⟨e,he⟩ : ∃ e : Int,e = (j : Int) - 1074 := ⟨_,rfl⟩;rw [← he] at hp;have hK := zHf j e zO;(have hq0 : q ≠ 0 := by omega);(have u0 : units n = q * 2 ^ j := by rw [hr];exact zXy j q zO hjq);(have u1 : units (n + 1) = (q + 1) * 2 ^ j := by rw [hr,Nat.add_assoc];exact zXy j (q + 1) zO zO);obtain ⟨K1,o1⟩ := of_ev q zO;obtain ⟨K2,o2⟩ := up_ev q 1 (.inr (by decide)) (by have := zXK (show q < 2 ^ 53 by omega);omega);obtain ⟨K3,o3⟩ := of_ev 2 (by decide);obtain ⟨K4,o4⟩ := of_ev 1 (by decide)
 have hstart : ∀ (k : Nat),K1 + K2 + K3 + K4 ≤ k → dec_spans.f k (a : Int) = if ((q : Int)) = 4503599627370496 then dec_spans.j0 k e (q : Int) (decide (e > (-1074))) (toB (q * 2)) (toB 2) (toB 1) (toB 1) else dec_spans.j0 k e (q : Int) false (toB (q * 2)) (toB 2) (toB 1) (toB 1) := by
  intro k hk;dsimp only at o1 o2 o3 o4;have p1 := o1 k zO;have p2 := o2 k zO;have p3 := o3 k zO;have p4 := o4 k zO;rw [Nat.pow_one] at p2;have p3 : dec_of.f k 2 = some (toB 2) := p3;have p4 : dec_of.f k 1 = some (toB 1) := p4;have p2 : b_up.f k (toB q) 1 = some (toB (q * 2)) := p2;rw [dec_spans.f,hp,Option.bind_some];dsimp only;rw [p1,Option.bind_some,p2,Option.bind_some,p3,Option.bind_some,p4,Option.bind_some,Option.bind_some]
 by_cases hc : q = 4503599627370496 ∧ 0 < j
 ·obtain ⟨K5,o5⟩ := up_ev q 2 (.inr (by decide)) (by have := zXK (show q < 2 ^ 53 by omega);omega);obtain ⟨K6,o6⟩ := of_ev 4 (by decide);obtain ⟨K7,o7⟩ := zWN e (q * 4) 4 1 2 60 zO (by decide) (by decide) (by decide) zO zO zO (by decide) (by decide) (by decide) (by decide);have hd := zBI (show n = j * 4503599627370496 + 4503599627370496 by omega) hc.2;refine ⟨_,_,_,_,zHD u0 u1 hd (Nat.two_pow_pos _) hK,lt_up (a := 60) zO zO,lt_up (a := 3) (by decide) zO,?_,lt_up (a := 2) (by decide) zO,?_⟩
  ·have := lt_up (x := 1) (a := 1) (b := e.toNat) (B := B) (by decide) zO
   rwa [Nat.one_mul] at this
  ·refine ⟨K1 + K2 + K3 + K4 + K5 + K6 + K7 + 1,fun k hk => ?_⟩;dsimp only at o1 o3 o4 o5 o6 o7 ⊢;obtain ⟨k',rfl⟩ : ∃ k',k = k' + 1 := ⟨k - 1,by omega⟩;have p1 := o1 k' zO;have p5 : b_up.f k' (toB q) 2 = some (toB (q * 4)) := o5 k' zO;have p6 : dec_of.f k' 4 = some (toB 4) := o6 k' zO;have p3 : dec_of.f k' 2 = some (toB 2) := o3 k' zO;have p4 : dec_of.f k' 1 = some (toB 1) := o4 k' zO;rw [hstart (k' + 1) zO,if_pos zO,dec_spans.j0,if_pos (by rw [decide_eq_true_iff];omega),p1,Option.bind_some,p5,Option.bind_some,p6,Option.bind_some,p4,Option.bind_some,p3,Option.bind_some,o7 k' zO,Nat.one_mul]
 ·obtain ⟨K7,o7⟩ := zWN e (q * 2) 2 1 1 60 zO (by decide) (by decide) (by decide) zO zO zO (by decide) (by decide) (by decide) (by decide)
  have hd : units n - units (n - 1) = 2 ^ j := by
   rcases zKM hr hq hjq h0 with h | h
   ·exact h
   ·exact absurd ⟨h.1,h.2.1⟩ hc
  have hone : 2 ^ e.toNat < 2 ^ B := by
   have := lt_up (x := 1) (a := 1) (b := e.toNat) (B := B) (by decide) zO
   rwa [Nat.one_mul] at this
  refine ⟨_,_,_,_,zHC u0 u1 hd (Nat.two_pow_pos _) hK,lt_up (a := 60) zO zO,lt_up (a := 2) (by decide) zO,hone,hone,?_⟩
  ·refine ⟨K1 + K2 + K3 + K4 + K7 + 1,fun k hk => ?_⟩;dsimp only at o7 ⊢;obtain ⟨k',rfl⟩ : ∃ k',k = k' + 1 := ⟨k - 1,by omega⟩;have g7 := o7 k' zO;rw [Nat.one_mul] at g7;rw [hstart (k' + 1) zO];by_cases hq2 : q = 4503599627370496
   ·rw [if_pos zO,dec_spans.j0,if_neg (by rw [decide_eq_true_iff];omega)];exact g7
   ·rw [if_neg zO,dec_spans.j0,if_neg (by decide)];exact g7
theorem zYM {x B n M : Nat} (h : x < 2 ^ B) (hM : B + (4 * n + 1) ≤ M) : x * 10 ^ n < 2 ^ M := by
 refine Nat.lt_of_lt_of_le (Nat.mul_lt_mul'' h (zYI n)) ?_
 rw [← Nat.pow_add];exact Nat.pow_le_pow_right (by decide) hM
theorem zVd (M : Nat) : 2 ^ M ≤ 10 ^ M := Nat.pow_le_pow_left (by decide) M
theorem zVT {n R S D U p q : Nat} (M : Nat) (ev : Bool) (e : Int) (h : Sp n R S D U) (hn : 0 < n) (hM : M ≤ 100000) (hsM : S * 10 ^ q < 2 ^ M) (he : -100000 ≤ e) (he2 : e ≤ 100000)
  (hf : Far (R * 10 ^ p) (U * 10 ^ p) (S * 10 ^ q) ev) (hnf : ¬ Far (R * 10 ^ p) (U * 10 ^ p) (S * 10 ^ (q + 1)) ev) :
  Ev (fun k => d_s.l2 k e ([] : List Int) (toB (R * 10 ^ p)) (toB (S * 10 ^ q)) (toB (D * 10 ^ p)) (toB (U * 10 ^ p)) ev) (outF (gen (R * 10 ^ p) (S * 10 ^ q) (D * 10 ^ p) (U * 10 ^ p) ev 17 0) e) := by
 have hs : 0 < S * 10 ^ q := Nat.mul_pos h.hS (zQE q);have hU := Nat.mul_pos (sp_U h) (zQE p);have hR := Nat.mul_pos (sp_R h hn) (zQE p);(have hD2 : 2 * (D * 10 ^ p) ≤ R * 10 ^ p := by rw [← Nat.mul_assoc];exact Nat.mul_le_mul_right _ (zWO h));have hle := zBx hnf;rw [Nat.pow_succ,← Nat.mul_assoc] at hle
 have hstop : (∃ j,0 ≤ j ∧ j < 0 + 17 ∧ Stop (R * 10 ^ p * 10 ^ j % (S * 10 ^ q)) (D * 10 ^ p * 10 ^ j) (U * 10 ^ p * 10 ^ j) (S * 10 ^ q) ev) ∧
   (S * 10 ^ q ≤ R * 10 ^ p ∨ (0 = 0 ∧ Stop (R * 10 ^ p * 10 ^ 0 % (S * 10 ^ q)) (D * 10 ^ p * 10 ^ 0) (U * 10 ^ p * 10 ^ 0) (S * 10 ^ q) ev ∧ 1 ≤ pickX (R * 10 ^ p * 10 ^ 0 / (S * 10 ^ q)) (R * 10 ^ p * 10 ^ 0 % (S * 10 ^ q)) (D * 10 ^ p * 10 ^ 0) (U * 10 ^ p * 10 ^ 0) (S * 10 ^ q) ev)) := by
  by_cases hge : S * 10 ^ q ≤ R * 10 ^ p
  ·exact ⟨⟨16,by omega,by omega,zYO ev h hn hge⟩,.inl hge⟩
  ·have hlt : R * 10 ^ p < S * 10 ^ q := Nat.lt_of_not_le hge
   have hst : Stop (R * 10 ^ p * 10 ^ 0 % (S * 10 ^ q)) (D * 10 ^ p * 10 ^ 0) (U * 10 ^ p * 10 ^ 0) (S * 10 ^ q) ev := by
    rw [Nat.pow_zero,Nat.mul_one,Nat.mul_one,Nat.mul_one,Nat.mod_eq_of_lt hlt];exact .inr hf
   refine ⟨⟨0,by omega,by omega,hst⟩,.inr ⟨rfl,hst,?_⟩⟩;rw [Nat.pow_zero,Nat.mul_one,Nat.mul_one,Nat.mul_one,Nat.mod_eq_of_lt hlt,Nat.div_eq_of_lt hlt];unfold pickX
   have hnl : ¬ Low (R * 10 ^ p) (D * 10 ^ p) ev := by
    unfold Low;rintro (g | ⟨g,_⟩) <;> omega
   rw [if_pos ⟨hf,.inl hnl⟩]
   exact Nat.le_refl _
 (have hB : (2 : Nat) ^ (M + 4) = 2 ^ M * 16 := by rw [Nat.pow_add]);(have hdn : D * 10 ^ p < 2 ^ (M + 4) := by omega);have hup : U * 10 ^ p < 2 ^ (M + 4) := by omega
 have hg := zHn (R * 10 ^ p) (S * 10 ^ q) (D * 10 ^ p) (U * 10 ^ p) (M + 80) ev e hs zO zO (by
  have : (2 : Nat) ^ (M + 4) ≤ 2 ^ (M + 80) := Nat.pow_le_pow_right (by decide) zO
  omega) he he2 17 0 zO (zYM hdn zO) (zYM hup zO) hstop.1 hstop.2
 have e1 : (R * 10 ^ p * 10 ^ 0 / (S * 10 ^ q) % 10) * (S * 10 ^ q) + R * 10 ^ p * 10 ^ 0 % (S * 10 ^ q) = R * 10 ^ p := by
  rw [Nat.pow_zero,Nat.mul_one];have h10 : R * 10 ^ p / (S * 10 ^ q) < 10 := Nat.div_lt_of_lt_mul zO;rw [Nat.mod_eq_of_lt h10,Nat.mul_comm]
  exact Nat.div_add_mod _ _
 rw [e1,Nat.pow_zero,Nat.mul_one (R * 10 ^ p),Nat.mul_one (D * 10 ^ p),Nat.mul_one (U * 10 ^ p)] at hg;exact hg
theorem zBv {n R S D U : Nat} (p q M : Nat) (ev : Bool) (h : Sp n R S D U) (hn : 0 < n) (hM : M ≤ 10000) (hp : p ≤ 1000) (hq : q ≤ 1000) (hrM : R * 10 ^ p + U * 10 ^ p < 2 ^ M) (hsM : S * 10 ^ q < 2 ^ M) :
  ∃ p' q' : Nat,Far (R * 10 ^ p') (U * 10 ^ p') (S * 10 ^ q') ev ∧ ¬ Far (R * 10 ^ p') (U * 10 ^ p') (S * 10 ^ (q' + 1)) ev ∧
   Ev (fun k => d_s.l0 k ((q : Int) - p) (toB (R * 10 ^ p)) (toB (S * 10 ^ q)) (toB (D * 10 ^ p)) (toB (U * 10 ^ p)) ev) (outF (gen (R * 10 ^ p') (S * 10 ^ q') (D * 10 ^ p') (U * 10 ^ p') ev 17 0) ((q' : Int) - p')) := by
 have hup : R * 10 ^ p + U * 10 ^ p < S * 10 ^ (q + 1 + M) := by
  refine Nat.lt_of_lt_of_le hrM (Nat.le_trans (zVd M) ?_)
  refine Nat.le_trans (Nat.pow_le_pow_right (by decide) (show M ≤ q + 1 + M by omega)) ?_
  exact Nat.le_mul_of_pos_left _ h.hS
 obtain ⟨q',g1,g2,g3,g4,g5⟩ := zFp R S D U p M ev zO hrM zO M q zO hup hsM
 have hlo : S * 10 ^ q' ≤ R * 10 ^ (p + M) := by
  refine Nat.le_trans (Nat.le_of_lt g3) (Nat.le_trans (zVd M) ?_)
  refine Nat.le_trans (Nat.pow_le_pow_right (by decide) (show M ≤ p + M by omega)) ?_
  exact Nat.le_mul_of_pos_left _ (sp_R h hn)
 (have h16 : 16 * (S * 10 ^ q') < 2 ^ (M + 4) := by rw [Nat.pow_add];omega);obtain ⟨p',k1,k2,k3,k4,k5⟩ := zFa R S D U q' (M + 4) ev (sp_U h) (by have := zWO h;omega) zO h16 zO M p zO hlo g4;exact ⟨p',q',k3,k4,g5 _ (k5 _ (zVT M ev _ h hn zO g3 zO zO k3 k4))⟩
theorem zGX (a : Nat) (ha : a < 18446744073709551616) : (Go.bits .and .u64 (a : Int) 1 == 0) = (a % 2 == 0) := by
 have := zYY a 1 ha (by decide);rw [show (1 : Nat) = 2 ^ 1 - 1 from rfl,Nat.and_two_pow_sub_one_eq_mod,Nat.pow_one] at this;have h2 : Go.bits .and .u64 (a : Int) 1 = ((a % 2 : Nat) : Int) := this;rw [h2,show ((((a % 2 : Nat) : Int) == 0)) = decide (((a % 2 : Nat) : Int) = 0) from rfl,show (a % 2 == 0) = decide (a % 2 = 0) from rfl];exact decide_eq_decide.2 zO
theorem zJG (a : Nat) (ha : a < 18446744073709551616) (h0 : 0 < rung a) (h1 : rung a < INF) : ∃ R S D U p q : Nat,Sp (rung a) R S D U ∧
  Far (R * 10 ^ p) (U * 10 ^ p) (S * 10 ^ q) (a % 2 == 0) ∧ ¬ Far (R * 10 ^ p) (U * 10 ^ p) (S * 10 ^ (q + 1)) (a % 2 == 0) ∧
  Ev (fun k => d_s.f k (a : Int)) (outF (gen (R * 10 ^ p) (S * 10 ^ q) (D * 10 ^ p) (U * 10 ^ p) (a % 2 == 0) 17 0) ((q : Int) - p)) := by
 obtain ⟨B,hB⟩ : ∃ B,B = 1100 := ⟨_,rfl⟩;obtain ⟨R,S,D,U,hsp,bR,bS,bD,bU,⟨K1,h2⟩⟩ := zGs a ha h0 h1 B hB;have lR := zXK bR;have lS := zXK bS;obtain ⟨la,la1,la2,la3⟩ := zHl R zO;obtain ⟨lb,lb1,lb2,lb3⟩ := zHl S zO;(have hla : la ≤ 1200 := by omega);(have hlb : lb ≤ 1200 := by omega);have hR := sp_R hsp h0;obtain ⟨e,he⟩ : ∃ e : Int,e = ((la : Int) - lb) * 1233 / 4096 := ⟨_,rfl⟩;(have hwe : wrap64 (wrap64 ((la : Int) - lb) * 1233) / 4096 = e := by rw [wrapB ((la : Int) - lb) zO zO,wrapB _ zO zO,he]);(have he1 : -400 ≤ e := by omega);(have he2 : e ≤ 400 := by omega);have hev := zGX a ha;clear he lR lS la2 lb2;obtain ⟨M,hM⟩ : ∃ M,M = 4000 := ⟨_,rfl⟩;(have t2 : ∀ x : Nat,x < 2 ^ B → ∀ n : Nat,n ≤ 400 → x * 10 ^ n < 2 ^ (M - 1) := fun x hx n hn => zYM hx zO);(have hM2 : (2 : Nat) ^ M = 2 ^ (M - 1) * 2 := by rw [← Nat.pow_succ,show (M - 1).succ = M by omega]);by_cases hpos : e ≥ 0
 ·have s1 := t2 S bS e.toNat zO;have r1 := t2 R bR 0 zO;have u1 := t2 U bU 0 zO;obtain ⟨p',q',g1,g2,K3,g3⟩ := zBv 0 e.toNat M (a % 2 == 0) hsp h0 zO zO zO zO zO;obtain ⟨K2,h3⟩ := zWi S e.toNat M zO zO zO;refine ⟨R,S,D,U,p',q',hsp,g1,g2,K1 + K2 + K3 + 1,fun k hk => ?_⟩;dsimp only at h2 h3 g3 ⊢;obtain ⟨k',rfl⟩ : ∃ k',k = k' + 1 := ⟨k - 1,by omega⟩;have p3 := h3 (k' + 1) zO;have pg := g3 k' zO;rw [show ((e.toNat : Nat) : Int) = e by omega] at p3 pg;rw [Nat.pow_zero,Nat.mul_one,Nat.mul_one,Nat.mul_one,show e - ((0 : Nat) : Int) = e by omega] at pg;rw [d_s.f,h2 (k' + 1) zO,Option.bind_some];dsimp only;rw [la1,Option.bind_some,lb1,Option.bind_some,hwe,if_pos hpos,p3,Option.bind_some,hev,d_s.j0];exact pg
 ·have s1 := t2 S bS 0 zO;have r1 := t2 R bR (-e).toNat zO;have u1 := t2 U bU (-e).toNat zO;have d1 := t2 D bD (-e).toNat zO;obtain ⟨p',q',g1,g2,K3,g3⟩ := zBv (-e).toNat 0 M (a % 2 == 0) hsp h0 zO zO zO zO zO;obtain ⟨K2,h3⟩ := zWi R (-e).toNat M zO zO zO;obtain ⟨K4,h4⟩ := zWi D (-e).toNat M zO zO zO;obtain ⟨K5,h5⟩ := zWi U (-e).toNat M zO zO zO;refine ⟨R,S,D,U,p',q',hsp,g1,g2,K1 + K2 + K3 + K4 + K5 + 1,fun k hk => ?_⟩;dsimp only at h2 h3 h4 h5 g3 ⊢;obtain ⟨k',rfl⟩ : ∃ k',k = k' + 1 := ⟨k - 1,by omega⟩;have p3 := h3 (k' + 1) zO;have p4 := h4 (k' + 1) zO;have p5 := h5 (k' + 1) zO;have pg := g3 k' zO;rw [show (((-e).toNat : Nat) : Int) = -e by omega] at p3 p4 p5;rw [Nat.pow_zero,Nat.mul_one,show ((0 : Nat) : Int) - (((-e).toNat : Nat) : Int) = e by omega] at pg;rw [d_s.f,h2 (k' + 1) zO,Option.bind_some];dsimp only;rw [la1,Option.bind_some,lb1,Option.bind_some,hwe,if_neg hpos,wrapB (-e) zO zO,p3,Option.bind_some,p4,Option.bind_some,p5,Option.bind_some,hev,d_s.j0];exact pg
end Go.Proofs.YtongfmeediokmaaGreatDoor.Pure
end
section
namespace Go.Proofs.YtongfmeediokmaaGreatDoor.Pure
open Go.RowKit YtongfmeediokmaaGreatDoor.Pr YtongfmeediokmaaGreatDoorW.PrintWords YtongfmeediokmaaGreatDoorW.PrintLast YtongfmeediokmaaGreatDoorW.PrintMore
theorem zYz (c : Int) : (strOfNums [c]).size = 1 := rfl
theorem zQI (a b : ByteArray) : (a ++ b).size = a.size + b.size := ByteArray.size_append
theorem zJP (c : Int) (h : 0 ≤ c) (h2 : c < 256) : bt (strOfNums [c]) ((0 : Nat) : Int) = c := by
 show (((UInt8.ofNat c.toNat).toNat : Nat) : Int) = c;rw [UInt8.toNat_ofNat_of_lt' (by show c.toNat < 256;omega)];omega
theorem zVw {a b : ByteArray} (ha : zXM a) (hb : zXM b) : zXM (a ++ b) := by
 intro i hi;rw [zQI] at hi;rw [zJw];by_cases h : i < a.size
 ·rw [if_pos h];exact ha i h
 ·rw [if_neg h];exact hb _ zO
theorem zVv {c : Int} (h : 48 ≤ c) (h2 : c ≤ 57) : zXM (strOfNums [c]) := by
 intro i hi;rw [zYz] at hi;(obtain rfl : i = 0 := by omega);rw [zJP c zO zO];exact ⟨h,h2⟩
theorem zJe (a b : ByteArray) : ∀ i,i ≤ a.size → dval (a ++ b) i = dval a i
 | 0,_ => rfl
 | i + 1,h => by rw [dval,dval,zJe a b i zO,zJw,if_pos zO]
theorem zVu (s : ByteArray) (c : Int) (h : 48 ≤ c) (h2 : c ≤ 57) : dval (s ++ strOfNums [c]) (s ++ strOfNums [c]).size = dval s s.size * 10 + (c - 48).toNat := by
 rw [zQI,zYz,dval,zJe s _ s.size (Nat.le_refl _),zJw,if_neg zO,Nat.sub_self,zJP c zO zO]
theorem zVN : ∀ (n x : Nat),x ≤ n → zXM (strOfNums (ds x)) ∧ dval (strOfNums (ds x)) (strOfNums (ds x)).size = x := by
 intro n
 induction n with
 | zero =>
  intro x h;rw [show x = 0 by omega,zYj];exact ⟨fun i hi => absurd hi (Nat.not_lt_zero i),rfl⟩
 | succ n ih =>
  intro x h;by_cases h0 : x = 0
  ·rw [h0,zYj];exact ⟨fun i hi => absurd hi (Nat.not_lt_zero i),rfl⟩
  ·obtain ⟨a,b⟩ := ih (x / 10) zO;have hd := dg_in x;rw [zYg h0,zZx];refine ⟨zVw a (zVv hd.1 hd.2),?_⟩;rw [zVu _ _ hd.1 hd.2,b];unfold dg;omega
theorem zHp (x : Nat) : zXM (strOfNums (ds x)) := (zVN x x (Nat.le_refl _)).1
theorem zHo (x : Nat) : dval (strOfNums (ds x)) (strOfNums (ds x)).size = x := (zVN x x (Nat.le_refl _)).2
theorem zZD {m x : Nat} (h : x < 10 ^ m) : (strOfNums (ds x)).size ≤ m := by rw [zYl];exact zVO m x h
theorem zZE {x : Nat} (h : x ≠ 0) : 0 < (ds x).length := by rw [zYg h,List.length_append,List.length_singleton];omega
theorem zHZ {x : Nat} (h : x ≠ 0) (t : ByteArray) : bt (strOfNums (ds x) ++ t) (((ds x).length - 1 : Nat) : Int) = dg x := by
 have hd := dg_in x;(have hl : (strOfNums (ds (x / 10))).size = (ds x).length - 1 := by rw [zYl,zYg h,List.length_append,List.length_singleton,Nat.add_sub_cancel]);have hl2 := zZE h;rw [zJw,zYl,if_pos zO,zYg h,zZx,zJw,← zYg h,hl,if_neg (Nat.lt_irrefl _),Nat.sub_self];exact zJP _ zO zO
end Go.Proofs.YtongfmeediokmaaGreatDoor.Pure
end
section
namespace Go.Proofs.YtongfmeediokmaaGreatDoor.Pure
open Go.RowKit YtongfmeediokmaaGreatDoor.Pr YtongfmeediokmaaGreatDoorW.PrintWords YtongfmeediokmaaGreatDoorW.PrintLast YtongfmeediokmaaGreatDoorW.PrintMore YtongfmeediokmaaGreatDoor.Flo
structure Quo (lx ly : List Int) (x y B : Nat) : Prop where
 dx : Digs lx
 dy : Digs ly
 ex : valD lx = x
 ey : valD ly = y
 lx' : lx.length ≤ 1000
 ly' : ly.length ≤ 1000
 bx : x < 2 ^ B
 byy : y < 2 ^ B
 px : 0 < x
 py : 0 < y
 hB : B ≤ 2000
theorem zKe {lx ly : List Int} {x y B : Nat} (q : Quo lx ly x y B) (e : Int) (he : -1500 ≤ e) (he2 : e ≤ 1500) : Ev (fun k => r5_least.f k lx ly e) (decide (Least x y e)) := by
 obtain ⟨dx,dy,ex,ey,lx',ly',bx,byy,px,py,hB⟩ := q;by_cases h : e ≥ 0
 ·obtain ⟨K1,h1⟩ := zKP e.toNat zO;have l10 := zXn (zYI e.toNat);obtain ⟨K2,h2⟩ := zYm ly (toD (10 ^ e.toNat)) dy (zQJ _) zO zO;rw [zQN,ey] at h2;have hb := zXn (zYM (n := e.toNat) (M := 9000) byy zO);obtain ⟨c,⟨K3,h3⟩,c1⟩ := zJO lx (toD (y * 10 ^ e.toNat)) dx (zQJ _) zO zO;rw [zQN,ex] at c1
  have c2 : c ≥ 0 ↔ Least x y e := by
   unfold Least;rw [show (-e).toNat = 0 by omega,Nat.pow_zero,Nat.mul_one];exact c1
  refine ⟨K1 + K2 + K3,fun k hk => ?_⟩;dsimp only at h1 h2 h3 ⊢;have p1 := h1 k zO;rw [show ((e.toNat : Nat) : Int) = e by omega] at p1;rw [r5_least.f,if_pos h,p1,Option.bind_some,h2 k zO,Option.bind_some,h3 k zO,Option.bind_some];exact congrArg some (decide_eq_decide.2 c2)
 ·obtain ⟨K1,h1⟩ := zKP (-e).toNat zO;have l10 := zXn (zYI (-e).toNat);obtain ⟨K2,h2⟩ := zYm lx (toD (10 ^ (-e).toNat)) dx (zQJ _) zO zO;rw [zQN,ex] at h2;have hb := zXn (zYM (n := (-e).toNat) (M := 9000) bx zO);obtain ⟨c,⟨K3,h3⟩,c1⟩ := zJO (toD (x * 10 ^ (-e).toNat)) ly (zQJ _) dy zO zO;rw [zQN,ey] at c1
  have c2 : c ≥ 0 ↔ Least x y e := by
   unfold Least;rw [show e.toNat = 0 by omega,Nat.pow_zero,Nat.mul_one];exact c1
  refine ⟨K1 + K2 + K3,fun k hk => ?_⟩;dsimp only at h1 h2 h3 ⊢;have p1 := h1 k zO;rw [show (((-e).toNat : Nat) : Int) = -e by omega] at p1;rw [r5_least.f,if_neg h,wrapB (-e) zO zO,p1,Option.bind_some,h2 k zO,Option.bind_some,h3 k zO,Option.bind_some];exact congrArg some (decide_eq_decide.2 c2)
theorem zVl {lx ly : List Int} {x y B : Nat} (q : Quo lx ly x y B) (hi : Nat) (hhi : ¬ Least x y hi) (h1 : hi ≤ 1000) : ∀ (d : Nat) (e : Int),(hi : Int) - e = d → -1000 ≤ e → Least x y e →
  ∃ e' : Int,Least x y e' ∧ ¬ Least x y (e' + 1) ∧ e' < hi ∧ e ≤ e' ∧ Ev (fun k => r5_Power.l1 k lx ly e) e'
 | 0,e,hd,he,hl => absurd (show Least x y hi by rw [show (hi : Int) = e by omega];exact hl) hhi
 | d + 1,e,hd,he,hl => by
  obtain ⟨K1,g1⟩ := zKe q (e + 1) zO zO;by_cases h : Least x y (e + 1)
  ·obtain ⟨e',a1,a2,a3,a4,K2,g2⟩ := zVl q hi hhi h1 d (e + 1) zO zO h;refine ⟨e',a1,a2,a3,by omega,K1 + K2 + 1,fun k hk => ?_⟩;dsimp only at g1 g2 ⊢;obtain ⟨k',rfl⟩ : ∃ k',k = k' + 1 := ⟨k - 1,by omega⟩;rw [r5_Power.l1,wrapB (e + 1) zO zO,g1 k' zO,Option.bind_some,if_pos (decide_eq_true h)];exact g2 k' zO
  ·refine ⟨e,hl,h,by omega,by omega,K1 + 1,fun k hk => ?_⟩;dsimp only at g1 ⊢;obtain ⟨k',rfl⟩ : ∃ k',k = k' + 1 := ⟨k - 1,by omega⟩;rw [r5_Power.l1,wrapB (e + 1) zO zO,g1 k' zO,Option.bind_some,if_neg (by rw [decide_eq_false h];decide)]
theorem zHH {lx ly : List Int} {x y B : Nat} (q : Quo lx ly x y B) (lo hi : Nat) (hlo : Least x y (-(lo : Int))) (hhi : ¬ Least x y hi) (h1 : hi ≤ 1000) (h2 : lo ≤ 1000) : ∀ (d : Nat) (e : Int),e + lo ≤ d → -1000 ≤ e → e ≤ 1000 →
  ∃ e' : Int,Least x y e' ∧ ¬ Least x y (e' + 1) ∧ e' < hi ∧ Ev (fun k => r5_Power.l0 k lx ly e) e' := by
 have go : ∀ e : Int,-1000 ≤ e → e ≤ 1000 → Least x y e → ∃ e' : Int,Least x y e' ∧ ¬ Least x y (e' + 1) ∧ e' < hi ∧ Ev (fun k => r5_Power.l0 k lx ly e) e' := by
  intro e he he2 hl
  have hlt : e < hi := by
   apply Int.lt_of_not_ge;intro hge;exact hhi (zYo q.px q.py hl hge)
  obtain ⟨e',a1,a2,a3,a4,K2,g2⟩ := zVl q hi hhi h1 ((hi : Int) - e).toNat e zO he hl;obtain ⟨K1,g1⟩ := zKe q e zO zO;refine ⟨e',a1,a2,a3,K1 + K2 + 1,fun k hk => ?_⟩;dsimp only at g1 g2 ⊢;obtain ⟨k',rfl⟩ : ∃ k',k = k' + 1 := ⟨k - 1,by omega⟩;rw [r5_Power.l0,g1 k' zO,Option.bind_some,if_pos (decide_eq_true hl)];exact g2 k' zO
 intro d
 induction d with
 | zero =>
  intro e hd he he2;exact go e he he2 (zYo q.px q.py hlo zO)
 | succ d ih =>
  intro e hd he he2;by_cases h : Least x y e
  ·exact go e he he2 h
  ·have hgt : -(lo : Int) < e := by
    apply Int.lt_of_not_ge;intro hge;exact h (zYo q.px q.py hlo hge)
   obtain ⟨e',a1,a2,a3,K2,g2⟩ := ih (e - 1) zO zO zO;obtain ⟨K1,g1⟩ := zKe q e zO zO;refine ⟨e',a1,a2,a3,K1 + K2 + 1,fun k hk => ?_⟩;dsimp only at g1 g2 ⊢;obtain ⟨k',rfl⟩ : ∃ k',k = k' + 1 := ⟨k - 1,by omega⟩;rw [r5_Power.l0,g1 k' zO,Option.bind_some,if_neg (by rw [decide_eq_false h];decide),wrapB (e - 1) zO zO];exact g2 k' zO
theorem zVk {lx ly : List Int} {x y B : Nat} (q : Quo lx ly x y B) (lo hi : Nat) (hlo : Least x y (-(lo : Int))) (hhi : ¬ Least x y hi) (h1 : hi ≤ 1000) (h2 : lo ≤ 1000) (hlx : lx.length ≤ 150) (hly : ly.length ≤ 150) :
  ∃ e : Int,Least x y e ∧ ¬ Least x y (e + 1) ∧ e < hi ∧ -(lo : Int) ≤ e ∧ Ev (fun k => r5_Power.f k lx ly) e := by
 obtain ⟨a,a1,_,K1,g1⟩ := zZz lx q.dx zO;obtain ⟨b,b1,_,K2,g2⟩ := zZz ly q.dy zO;(have ha : a ≤ 2400 := by omega);(have hb : b ≤ 2400 := by omega);obtain ⟨e0,he0⟩ : ∃ e0 : Int,e0 = Int.tdiv (((a : Int) - b) * 30103) 100000 := ⟨_,rfl⟩
 have hbd : -1000 ≤ e0 ∧ e0 ≤ 1000 := by
  rw [he0];rcases Int.le_total 0 (((a : Int) - b) * 30103) with hp | hp
  ·rw [Int.tdiv_eq_ediv_of_nonneg hp];omega
  ·rw [show ((a : Int) - b) * 30103 = -(((b : Int) - a) * 30103) by omega,Int.neg_tdiv,Int.tdiv_eq_ediv_of_nonneg zO];omega
 obtain ⟨e,c1,c2,c3,K3,g3⟩ := zHH q lo hi hlo hhi h1 h2 (e0 + lo).toNat e0 zO hbd.1 hbd.2;refine ⟨e,c1,c2,c3,?_,K1 + K2 + K3,fun k hk => ?_⟩
 ·apply Int.le_of_not_gt;intro hgt;exact c2 (zYo q.px q.py hlo zO)
 ·dsimp only at g1 g2 g3 ⊢;rw [r5_Power.f,g1 k zO,Option.bind_some,g2 k zO,Option.bind_some,wrapB ((a : Int) - b) zO zO,wrapB (((a : Int) - b) * 30103) zO zO,← he0,wrapB e0 zO zO];exact g3 k zO
end Go.Proofs.YtongfmeediokmaaGreatDoor.Pure
end
