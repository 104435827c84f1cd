/- A part of the proof of the law that RowDecPrints shows: lemmas, and contracts of the calls that it reaches. -/
import Derived.Test.YtflcanpajgpghaaGreatDoorProg
import Derived.Below
import Derived.Deep.Draws
import Derived.Deep.AppendLies
import Derived.Maps.AppendAt
import Derived.OwnWalk
import Derived.Laws.BytesArg
import Derived.Laws.MakeOwn
import Derived.Laws.OwnMore
import Derived.Deep.OwnRows
import Derived.Tactics
import Derived.Lib.ConvBytes
import Derived.Laws.Slices
import Derived.WalkKit
import Derived.KernelRfl
import Derived.RowKit3
import Derived.Deep.LoopGhost
import Derived.Deep.QuietTactic
import Derived.BigQuiet
import Derived.WideLaws
import Derived.Deep.DeepCutAuto
import Derived.Deep.CutBlock
import Derived.Deep.RegionHeld3
import Derived.Laws.Rows
import Derived.Lib.AppendStr
import Derived.ArgAppend
import Derived.Laws.IdiomCopy
import Derived.OrdersHeld
import Derived.Laws.BitsLemmas
import Derived.RowKit
import Derived.Test.YtflcanpajgpghaaGreatDoorZDR0
import Derived.WalkLawsBesides
import Derived.Lib.SliceRun
import Derived.Laws.Externs
import Derived.Shelf.Lay
import Derived.Shelf.Strconv.Itoa0
import Derived.Shelf.Small.Bits
import Derived.Shelf.LaysM
import Derived.Shelf.Strconv.Itoa3
import Derived.Shelf.Strings.Repeat
import Derived.Shelf.Strings.Trim
set_option linter.unusedVariables false
set_option linter.unusedSimpArgs false
section
namespace Go.Proofs.YtflcanpajgpghaaGreatDoor.Pr
open Go.RowKit Go.Proofs.YtflcanpajgpghaaGreatDoorW.PrintWords Go.Proofs.YtflcanpajgpghaaGreatDoorW.PrintLast Go.Proofs.YtflcanpajgpghaaGreatDoorW.PrintMore
attribute [local go_sem] zXe zXc zXn zXm zQV zQU zXd zXb
def errW : Option Int → Value
  | none => .nilIface
  | some c => .iface 0 (.int .i64 c)
theorem zQy : errW none = .nilIface := rfl
theorem zQx (c : Int) : errW (some c) = .iface 0 (.int .i64 c) := rfl
theorem info5 : (Tryz.prog.info? 5).map (fun i => (i.zero,i.size,i.bytes)) = some (some (.int .u8 0),1,1) := by kernel_rfl
theorem zXW : (Tryz.prog.info? 22).map (fun i => (i.zero,i.size,i.bytes)) = some (some (.int .u64 0),1,8) := by kernel_rfl
theorem zXV : (Tryz.prog.info? 52).map (fun i => (i.zero,i.size,i.bytes)) = some (some (.int .u32 0),1,4) := by kernel_rfl
def rd_L1 (xs : List (List Int)) (i : Int) : (List Int) := xs.getD i.toNat ([] : List Int)
def rd_L5 (xs : List (List (List Int))) (i : Int) : (List (List Int)) := xs.getD i.toNat ([] : List (List Int))
end Go.Proofs.YtflcanpajgpghaaGreatDoor.Pr
end
section
namespace Go.Proofs.YtflcanpajgpghaaGreatDoor.Flo
open Go Ieee
def rung (a : Nat) : Nat := a % 9223372036854775808
def nanB (a : Nat) : Bool := decide (9218868437227405312 < rung a)
def infB (a : Nat) : Bool := decide (rung a = 9218868437227405312)
theorem zJB (a : Nat) : double.read a = if rung a < 4503599627370496 then .number (a / 9223372036854775808 % 2 == 1) (rung a) (-1074) else if rung a < 9218868437227405312 then .number (a / 9223372036854775808 % 2 == 1) (4503599627370496 + rung a % 4503599627370496) (-1074 + ((rung a / 4503599627370496 - 1 : Nat) : Int)) else if rung a = 9218868437227405312 then .infinity (a / 9223372036854775808 % 2 == 1) else .nan (a / 9223372036854775808 % 2 == 1) (rung a - 9218868437227405312) := rfl
theorem zBa {a : Nat} (h : nanB a = true) : double.read a = .nan (a / 9223372036854775808 % 2 == 1) (rung a - 9218868437227405312) := by
 have h := of_decide_eq_true h;rw [zJB,if_neg (by omega),if_neg (by omega),if_neg (by omega)]
theorem zZn {a : Nat} (h : infB a = true) : double.read a = .infinity (a / 9223372036854775808 % 2 == 1) := by
 have h := of_decide_eq_true h;rw [zJB,if_neg (by omega),if_neg (by omega),if_pos h]
def units (r : Nat) : Nat := if r < 4503599627370496 then r else (4503599627370496 + r % 4503599627370496) * 2 ^ (r / 4503599627370496 - 1)
theorem zZo {a : Nat} (h1 : nanB a = false) (h2 : infB a = false) : ∃ (m k : Nat),double.read a = .number (a / 9223372036854775808 % 2 == 1) m (-1074 + (k : Int)) ∧ m * 2 ^ k = units (rung a) := by
 have h1 := of_decide_eq_false h1;have h2 := of_decide_eq_false h2;rw [zJB];unfold units;by_cases h : rung a < 4503599627370496
 ·rw [if_pos h,if_pos h];exact ⟨_,0,rfl,by simp⟩
 ·rw [if_neg h,if_neg h,if_pos (by omega)];exact ⟨_,_,rfl,rfl⟩
theorem zXR {r s : Nat} (h : r < s) : units r < units s := by
 unfold units;by_cases hs : s < 4503599627370496
 ·rw [if_pos hs,if_pos (by omega)];exact h
 ·rw [if_neg hs];by_cases hr : r < 4503599627370496
  ·rw [if_pos hr];have : 1 ≤ 2 ^ (s / 4503599627370496 - 1) := Nat.one_le_two_pow;have h2 : (4503599627370496 + s % 4503599627370496) * 1 ≤ (4503599627370496 + s % 4503599627370496) * 2 ^ (s / 4503599627370496 - 1) := Nat.mul_le_mul_left _ this;omega
  ·rw [if_neg hr];by_cases he : r / 4503599627370496 = s / 4503599627370496
   ·rw [he];exact Nat.mul_lt_mul_of_pos_right (by omega) (Nat.two_pow_pos _)
   ·(have hlt : r / 4503599627370496 - 1 + 1 ≤ s / 4503599627370496 - 1 := by omega);have h1 : (4503599627370496 + r % 4503599627370496) * 2 ^ (r / 4503599627370496 - 1) < 9007199254740992 * 2 ^ (r / 4503599627370496 - 1) := Nat.mul_lt_mul_of_pos_right (by omega) (Nat.two_pow_pos _);(have h2 : 9007199254740992 * 2 ^ (r / 4503599627370496 - 1) = 4503599627370496 * 2 ^ (r / 4503599627370496 - 1 + 1) := by rw [Nat.pow_succ];omega);have h3 : 4503599627370496 * 2 ^ (r / 4503599627370496 - 1 + 1) ≤ 4503599627370496 * 2 ^ (s / 4503599627370496 - 1) := Nat.mul_le_mul_left _ (Nat.pow_le_pow_right (by omega) hlt);have h4 : 4503599627370496 * 2 ^ (s / 4503599627370496 - 1) ≤ (4503599627370496 + s % 4503599627370496) * 2 ^ (s / 4503599627370496 - 1) := Nat.mul_le_mul_right _ (by omega);omega
theorem zWB {r s : Nat} (h : units r = units s) : r = s := by
 rcases Nat.lt_trichotomy r s with h1 | h1 | h1
 ·have := zXR h1;omega
 ·exact h1
 ·have := zXR h1;omega
theorem zKF {r : Nat} (h : units r = 0) : r = 0 := zWB (h.trans (by rfl))
theorem zZI (s : Bool) (m k j : Nat) : signed s m k * (2 : Int) ^ j = signed s (m * 2 ^ k) j := by
 unfold signed;simp only [Nat.shiftLeft_eq]
 cases s
 ·simp only [Bool.false_eq_true,if_false]
  push_cast
  rfl
 ·simp only [if_true]
  push_cast
  rw [Int.neg_mul]
theorem zVE (x y c : Int) (hc : 0 < c) : compare (x * c) (y * c) = compare x y := by
 have h1 : x * c < y * c ↔ x < y := Int.mul_lt_mul_right hc;have h2 : x * c = y * c ↔ x = y := ⟨fun h => Int.eq_of_mul_eq_mul_right (by omega) h,fun h => by rw [h]⟩;simp only [compare,compareOfLessAndEq,h1,h2]
def negB (a : Nat) : Bool := a / 9223372036854775808 % 2 == 1
def sv (a : Nat) : Int := if negB a = true then -(units (rung a) : Int) else (units (rung a) : Int)
theorem zYE (s : Bool) (m : Nat) : signed s m 0 = if s = true then -(m : Int) else (m : Int) := by
 unfold signed;simp only [Nat.shiftLeft_zero]
theorem zVj {a b : Nat} (ha : nanB a = false) (ha2 : infB a = false) (hb : nanB b = false) (hb2 : infB b = false) : double.order a b = some (compare (sv a) (sv b)) := by
 obtain ⟨m,k,hr,hm⟩ := zZo ha ha2;obtain ⟨n,l,hs,hn⟩ := zZo hb hb2;unfold Format.order;rw [hr,hs]
 show some (compare (signed (negB a) m ((-1074 + (k : Int)) - min (-1074 + (k : Int)) (-1074 + (l : Int))).toNat) (signed (negB b) n ((-1074 + (l : Int)) - min (-1074 + (k : Int)) (-1074 + (l : Int))).toNat)) = _
 obtain ⟨c,hc⟩ : ∃ c,c = min k l := ⟨_,rfl⟩;(have e1 : ((-1074 + (k : Int)) - min (-1074 + (k : Int)) (-1074 + (l : Int))).toNat = k - c := by omega);(have e2 : ((-1074 + (l : Int)) - min (-1074 + (k : Int)) (-1074 + (l : Int))).toNat = l - c := by omega);rw [e1,e2]
 have full : ∀ (s : Bool) (m k : Nat),c ≤ k → signed s m (k - c) * (2 : Int) ^ c = signed s (m * 2 ^ k) 0 := fun s m k h => by
  have h1 := zZI s m (k - c) c;have h2 := zZI s m (k - c + c) 0
  have h3 : signed s (m * 2 ^ (k - c)) c = signed s (m * 2 ^ k) 0 := by
   unfold signed;simp only [Nat.shiftLeft_eq,Nat.pow_zero,Nat.mul_one,Nat.mul_assoc,← Nat.pow_add,Nat.sub_add_cancel h]
  rw [h1,h3]
 have hpos : (0 : Int) < 2 ^ c := Int.pow_pos (by omega);rw [← zVE _ _ _ hpos,full _ m k (by omega),full _ n l (by omega),hm,hn,zYE,zYE]
 rfl
theorem zKj {a b : Nat} (h : nanB a = true ∨ nanB b = true) : double.order a b = none := by
 unfold Format.order;rcases h with h | h
 ·rw [zBa h];rfl
 ·rw [zBa h]
  cases double.read a <;> rfl
def eqB (a b : Nat) : Bool := !nanB a && !nanB b && (decide (a = b) || (decide (rung a = 0) && decide (rung b = 0)))
theorem zBK {a b : Nat} (ha : a < 18446744073709551616) (hb : b < 18446744073709551616) (hr : rung a = rung b) (hn : negB a = negB b) : a = b := by
 unfold rung at hr;unfold negB at hn
 have h1 : (a / 9223372036854775808 % 2 = 1) ↔ (b / 9223372036854775808 % 2 = 1) := by
  constructor
  ·intro h;have := beq_iff_eq.2 h;rw [hn] at this;exact beq_iff_eq.1 this
  ·intro h;have := beq_iff_eq.2 h;rw [← hn] at this;exact beq_iff_eq.1 this
 omega
theorem zBg {a b : Nat} (ha : a < 18446744073709551616) (hb : b < 18446744073709551616) : (double.order a b == some .eq) = eqB a b := by
 unfold eqB
 cases h1 : nanB a with
 | true => rw [zKj (.inl h1)];rfl
 | false =>
  cases h2 : nanB b with
  | true => rw [zKj (.inr h2)];rfl
  | false =>
   simp only [Bool.not_false,Bool.true_and]
   cases h3 : infB a with
   | true =>
    have e3 := of_decide_eq_true h3
    cases h4 : infB b with
    | true =>
     have e4 := of_decide_eq_true h4;unfold Format.order;rw [zZn h3,zZn h4]
     show ((some (compare (negB b).toNat (negB a).toNat) : Option Ordering) == some .eq) = _
     have hz : decide (rung a = 0) = false := decide_eq_false (by omega);rw [hz,Bool.false_and,Bool.or_false];by_cases he : a = b
     ·subst he;rw [decide_eq_true rfl]
      cases negB a <;> rfl
     ·rw [decide_eq_false he];have : negB a ≠ negB b := fun h => he (zBK ha hb (by omega) h)
      revert this
      cases negB a <;> cases negB b <;> simp <;> decide
    | false =>
     obtain ⟨n,l,hs,hn⟩ := zZo h2 h4;have e4 := of_decide_eq_false h4;unfold Format.order;rw [zZn h3,hs];have hz : decide (rung a = 0) = false := decide_eq_false (by omega);have he : decide (a = b) = false := decide_eq_false (fun h => by subst h;rw [h3] at h4;cases h4);rw [hz,he];show ((some (if (negB a) = true then Ordering.lt else Ordering.gt) : Option Ordering) == some .eq) = false
     cases negB a <;> rfl
   | false =>
    have e3 := of_decide_eq_false h3
    cases h4 : infB b with
    | true =>
     have e4 := of_decide_eq_true h4;obtain ⟨n,l,hs,hn⟩ := zZo h1 h3;unfold Format.order;rw [zZn h4,hs];have hz : decide (rung b = 0) = false := decide_eq_false (by omega);have he : decide (a = b) = false := decide_eq_false (fun h => by subst h;rw [h3] at h4;cases h4);rw [hz,he,Bool.and_false];show ((some (if (negB b) = true then Ordering.gt else Ordering.lt) : Option Ordering) == some .eq) = false
     cases negB b <;> rfl
    | false =>
     rw [zVj h1 h3 h2 h4]
     have key : sv a = sv b ↔ a = b ∨ (rung a = 0 ∧ rung b = 0) := by
      unfold sv;constructor
      ·intro h;by_cases hz : rung a = 0
       ·have hu : units (rung a) = 0 := by rw [hz];rfl
        have hub : units (rung b) = 0 := by
         split at h <;> split at h <;> omega
        exact .inr ⟨hz,zKF hub⟩
       ·(have hua : units (rung a) ≠ 0 := fun h => hz (zKF h));left
        have hn : negB a = negB b := by
         cases ea : negB a <;> cases eb : negB b <;> simp only [ea,eb,Bool.false_eq_true,if_false,if_true] at h <;> first | rfl | omega
        rw [hn] at h;(have hu : units (rung a) = units (rung b) := by split at h <;> omega);exact zBK ha hb (zWB hu) hn
      ·rintro (h | ⟨h,h'⟩)
       ·rw [h]
       ·rw [h,h'];have : units 0 = 0 := rfl;rw [this];split <;> split <;> rfl
     have hc : ((some (compare (sv a) (sv b)) : Option Ordering) == some .eq) = decide (sv a = sv b) := by
      simp only [compare,compareOfLessAndEq];by_cases hlt : sv a < sv b
      ·rw [if_pos hlt,decide_eq_false (by omega)];rfl
      ·rw [if_neg hlt];by_cases he : sv a = sv b
       ·rw [if_pos he,decide_eq_true he];rfl
       ·rw [if_neg he,decide_eq_false he];rfl
     rw [hc];by_cases h : sv a = sv b
     ·rw [decide_eq_true h];rcases key.1 h with h5 | ⟨h5,h6⟩
      ·rw [decide_eq_true h5];rfl
      ·rw [decide_eq_true h5,decide_eq_true h6];simp
     ·rw [decide_eq_false h];(have h7 : ¬ (a = b ∨ (rung a = 0 ∧ rung b = 0)) := fun g => h (key.2 g));rw [decide_eq_false (fun g => h7 (.inl g))];by_cases h5 : rung a = 0
      ·rw [decide_eq_false (fun g => h7 (.inr ⟨h5,g⟩))];simp
      ·rw [decide_eq_false h5];rfl
theorem zKS {a : Nat} (ha : a < 18446744073709551616) : (double.order a a != some .eq) = nanB a := by
 have := zBg ha ha;rw [bne,this];unfold eqB;rw [decide_eq_true rfl]
 cases nanB a <;> rfl
theorem zJc {a : Nat} (ha : a < 18446744073709551616) : (double.order a 0 == some .eq) = decide (rung a = 0) := by
 rw [zBg ha (by omega)];unfold eqB;(have h0 : nanB 0 = false := by decide);(have h1 : decide (rung 0 = 0) = true := by decide);rw [h0,h1,Bool.and_true];by_cases h : rung a = 0
 ·(have : nanB a = false := by unfold nanB;exact decide_eq_false (by omega));rw [this,decide_eq_true h];simp
 ·have : decide (a = 0) = false := decide_eq_false (fun e => h (by rw [e];rfl));rw [this,decide_eq_false h];simp
theorem sub_self {a : Nat} (h1 : nanB a = false) (h2 : infB a = false) : double.sub a a = some 0 := by
 obtain ⟨m,k,hr,hm⟩ := zZo h1 h2;unfold Format.sub;rw [hr];show some (double.write _) = some 0;have hb : ((-1074 + (k : Int)) - min (-1074 + (k : Int)) (-1074 + (k : Int))).toNat = 0 := by omega
 congr 1
 show double.write (.number (if signed (negB a) m ((-1074 + (k : Int)) - min (-1074 + (k : Int)) (-1074 + (k : Int))).toNat + signed (!negB a) m ((-1074 + (k : Int)) - min (-1074 + (k : Int)) (-1074 + (k : Int))).toNat = 0 then (negB a && !negB a) else decide (signed (negB a) m ((-1074 + (k : Int)) - min (-1074 + (k : Int)) (-1074 + (k : Int))).toNat + signed (!negB a) m ((-1074 + (k : Int)) - min (-1074 + (k : Int)) (-1074 + (k : Int))).toNat < 0)) (signed (negB a) m ((-1074 + (k : Int)) - min (-1074 + (k : Int)) (-1074 + (k : Int))).toNat + signed (!negB a) m ((-1074 + (k : Int)) - min (-1074 + (k : Int)) (-1074 + (k : Int))).toNat).natAbs (min (-1074 + (k : Int)) (-1074 + (k : Int)))) = 0;rw [hb]
 have hz : signed (negB a) m 0 + signed (!negB a) m 0 = 0 := by
  rw [zYE,zYE]
  cases negB a <;> simp <;> omega
 rw [hz,if_pos rfl];(have : (negB a && !negB a) = false := by cases negB a <;> rfl);rw [this];unfold Format.write Format.nearest;simp [Format.word]
theorem zHf {a : Nat} (h2 : infB a = true) : double.sub a a = none := by
 unfold Format.sub;rw [zZn h2];show Option.map double.write (if negB a = (!negB a) then _ else none) = none;rw [if_neg (by cases negB a <;> simp)]
 rfl
end Go.Proofs.YtflcanpajgpghaaGreatDoor.Flo
end
section
namespace Go.Proofs.YtflcanpajgpghaaGreatDoor.Pr
open Go.RowKit Go.Proofs.YtflcanpajgpghaaGreatDoorW.PrintWords Go.Proofs.YtflcanpajgpghaaGreatDoor.Flo
def kindV (a : Nat) : Int := if nanB a = true then 4 else if rung a = 0 then 0 else if infB a = true then 3 else if rung a < 4503599627370496 then 1 else 2
def flo_kind.f (a : Int) : Option Int := if 0 ≤ a ∧ a < 18446744073709551616 then some (kindV a.toNat) else none
theorem zGs (n : Int) (w : World) : (callFunc 67 #[.int .u64 n]).run Tryz.prog w = .ok (.value (.float .f64 n.toNat)) w := by
 rw [run_callFunc_extern Tryz.func67 (by kernel_rfl) (by kernel_rfl) (by kernel_rfl) (e := Extern.MathFloatBits.float64frombits) (by kernel_rfl)]
 rfl
theorem zJx {P : Program} (t : TypeId) {x : Nat} (h : infB x = true) (w : World) : ∃ b,(FloatKind.f64.format.order b 0 != some Ordering.eq) = true ∧ (binOp .sub t (.float .f64 x) (.float .f64 x)).run P w = .ok (.float .f64 b) w.drew := by
 have hs : FloatKind.f64.format.sub x x = none := zHf h;refine ⟨Question.cut (.nanBits .f64 x x) (w.tape w.drawn (.nanBits .f64 x x)),?_,?_⟩
 ·generalize w.tape w.drawn (.nanBits .f64 x x) = t
  have hn : nanB (Question.cut (.nanBits .f64 x x) t) = true := by
   show decide (9218868437227405312 < rung ((t % 2) * 2 ^ 63 + 0x7ff0000000000000 + 1 + (t / 2) % (2 ^ 52 - 1))) = true
   refine decide_eq_true ?_
   unfold rung;have hu : t / 2 % (2 ^ 52 - 1) < 4503599627370495 := Nat.mod_lt _ (by decide);generalize t / 2 % (2 ^ 52 - 1) = u at hu;rcases (show t % 2 = 0 ∨ t % 2 = 1 by omega) with e | e
   ·rw [e];omega
   ·rw [e];omega
  have ho : Ieee.double.order (Question.cut (.nanBits .f64 x x) t) 0 = none := zKj (.inl hn);show (Ieee.double.order (Question.cut (.nanBits .f64 x x) t) 0 != some Ordering.eq) = true;rw [ho]
  rfl
 ·simp [binOp,Op.floatArith,hs,choose,Sem.run,Question.forced];try rfl
theorem zJy {P : Program} (t : TypeId) {x : Nat} (h : nanB x = false) (h2 : infB x = false) (w : World) : (binOp .sub t (.float .f64 x) (.float .f64 x)).run P w = .ok (.float .f64 0) w :=
 run_float_arith w .sub t .f64 x x 0 (sub_self h h2)
theorem expB (a : Int) (h0 : 0 ≤ a) (h1 : a < 18446744073709551616) : (Go.bits .and .u64 (a / 4503599627370496) 2047 == 0) = decide (rung a.toNat < 4503599627370496) := by
 obtain ⟨n,rfl⟩ := Int.eq_ofNat_of_zero_le h0
 have hb : Go.bits .and .u64 ((n : Int) / 4503599627370496) 2047 = ((n / 4503599627370496 % 2048 : Nat) : Int) := by
  (have e1 : ((n : Int) / 4503599627370496) = ((n / 4503599627370496 : Nat) : Int) := by omega);rw [e1];(have hlt : n / 4503599627370496 < 2 ^ 64 := by omega);unfold Go.bits;rw [show IntKind.u64.bits = 64 from rfl];simp only [BitVec.toNat_and];rw [show (BitVec.ofInt 64 2047).toNat = 2 ^ 11 - 1 from rfl]
  have e2 : (BitVec.ofInt 64 ((n / 4503599627370496 : Nat) : Int)).toNat = n / 4503599627370496 := by
   rw [BitVec.ofInt_natCast,BitVec.toNat_ofNat,Nat.mod_eq_of_lt hlt]
  rw [e2,Nat.and_two_pow_sub_one_eq_mod];unfold IntKind.wrap;simp [IntKind.bits,IntKind.signed];omega
 rw [hb];unfold rung;rw [Int.toNat_natCast];by_cases h : n % 9223372036854775808 < 4503599627370496
 ·rw [decide_eq_true h];exact beq_iff_eq.2 (by omega)
 ·rw [decide_eq_false h];exact beq_eq_false_iff_ne.2 (by omega)
set_option maxHeartbeats 800000 in
theorem flo_kind.calls (a r : Int) (w : World) (h : flo_kind.f a = some r) : Calls Tryz.prog 39 #[.int .u64 a] w fun e w' => e = .returned (.int .i64 r) ∧ Drawn0 w w' := by
 unfold flo_kind.f at h;by_cases hb : 0 ≤ a ∧ a < 18446744073709551616
 ·rw [if_pos hb] at h;obtain rfl := Option.some.inj h;have ho : (FloatKind.f64.format.order a.toNat a.toNat != some Ordering.eq) = nanB a.toNat := zKS (a := a.toNat) (by omega);have hz : (FloatKind.f64.format.order a.toNat 0 == some Ordering.eq) = decide (rung a.toNat = 0) := zJc (a := a.toNat) (by omega);have hx := zGs;have he := expB a hb.1 hb.2;have hzz : (FloatKind.f64.format.order 0 0 != some Ordering.eq) = false := zKS (a := 0) (by omega);clear h hb;unfold kindV
  cases hn : nanB a.toNat with
  | true =>
   rw [if_pos rfl];rw [hn] at ho;clear hn hz he hzz;go_enter Tryz.func39,Tryz.ntmps39;go_wp2
   go_ret
   exact ⟨rfl,Drawn0.refl _⟩
  | false =>
   rw [if_neg (by decide)];rw [hn] at ho;by_cases h0 : rung a.toNat = 0
   ·rw [if_pos h0];rw [decide_eq_true h0] at hz;clear hn h0 he hzz;go_enter Tryz.func39,Tryz.ntmps39;go_wp2
    go_ret
    exact ⟨rfl,Drawn0.refl _⟩
   ·rw [if_neg h0];rw [decide_eq_false h0] at hz
    cases hi : infB a.toNat with
    | true =>
     rw [if_pos rfl];obtain ⟨b,hb1,hb2⟩ := zJx (P := Tryz.prog) 93 hi w;clear hn h0 he hi hzz;go_enter Tryz.func39,Tryz.ntmps39;go_wp2
     go_ret
     exact ⟨rfl,⟨1,rfl⟩⟩
    | false =>
     rw [if_neg (by decide)];have hs := zJy (P := Tryz.prog) 93 hn hi;clear hn h0 hi;by_cases h1 : rung a.toNat < 4503599627370496
     ·rw [if_pos h1];rw [decide_eq_true h1] at he;clear h1;go_enter Tryz.func39,Tryz.ntmps39;go_wp2
      go_ret
      exact ⟨rfl,Drawn0.refl _⟩
     ·rw [if_neg h1];rw [decide_eq_false h1] at he;clear h1;go_enter Tryz.func39,Tryz.ntmps39;go_wp2
      go_ret
      exact ⟨rfl,Drawn0.refl _⟩
 ·rw [if_neg hb] at h
  cases h
end Go.Proofs.YtflcanpajgpghaaGreatDoor.Pr
end
section
namespace Go.Proofs.YtflcanpajgpghaaGreatDoor.Pr
open Go.RowKit Go.Proofs.YtflcanpajgpghaaGreatDoorW.PrintWords Go.Proofs.YtflcanpajgpghaaGreatDoorW.PrintLast Go.Proofs.YtflcanpajgpghaaGreatDoorW.PrintMore
theorem infoB : (Tryz.prog.info? 52).map (fun i => (i.zero,i.size,i.bytes)) = some (some (.int .u32 0),1,4) := by kernel_rfl
def xrdB (xs : List (List Int)) (i : Int) : (List Int) := xs.getD i.toNat ([] : List Int)
theorem xatB {w : World} {A : Option Addr} {n : Nat} {xs : List (List Int)} (h : Kd.C (Kd.slice 52 (Kd.int .u32)) w A n xs) (i : Int) (h0 : 0 ≤ i) (h1 : i < n) : ∃ ad A0 c0,A = some ad ∧ w.cell? (ad.add i.toNat) = some (.slice A0 (xrdB xs i).length c0) ∧ (xrdB xs i).length ≤ c0 ∧ (Kd.int .u32).C w A0 (xrdB xs i).length (xrdB xs i) := by
 obtain ⟨ad,c,e,_,hK,hc0⟩ := Kd.C_get h ([] : List Int) i h0 h1;have hc : ∀ j u,c[j]? = some u → w.cell? (ad.add (i.toNat * 1 + j)) = some u := hc0;obtain ⟨A0,c0,rfl,l0,g0⟩ := hK;exact ⟨ad,A0,c0,e,by have hq := hc 0 _ rfl;rwa [Nat.mul_one,Nat.add_zero] at hq,l0,g0⟩
theorem zZX {α : Type} (l : List α) (k : Nat) (d : α) (h : k < l.length) : l.take (k + 1) = l.take k ++ [l.getD k d] := by
 rw [List.take_succ_eq_append_getElem h];simp [List.getD_eq_getElem?_getD,List.getElem?_eq_getElem h]
set_option maxRecDepth 100000 in
set_option maxHeartbeats 1000000 in
theorem zGo (n : Nat) (w : World) (hn : n ≤ 35184372088832) :
  Calls Tryz.prog 82 #[.slice none 0 0,.int .i64 n] w fun e w' => ∃ v0_ : Value,e = .returned (v0_) ∧ Kd.R (Kd.int .u32) 52 w' w.heap.size (fun _ => True) v0_ [] ∧ Below w.heap.size w w' := by
 have hcap : ∀ (W : World) (W2 : World) (v : Value),Kd.R (Kd.int .u32) 52 W w.heap.size (fun _ => True) v (List.replicate n 0) → ∃ v2,(Instr.slice 50 v none (some (.int .i64 0)) none).run Tryz.prog W2 = .ok v2 W2 ∧ Kd.R (Kd.int .u32) 52 W w.heap.size (fun _ => True) v2 [] := by
  intro W W2 v hv;obtain ⟨A,c,rfl,hl,hr⟩ := Kd.zWw hv;refine ⟨.slice A 0 c,?_,by simpa using Kd.zGW hv (m := 0) (Nat.zero_le _)⟩;(have hel : Tryz.prog.elem 50 = 52 := by simp [Program.elem,Tryz.underlying50]);(have hu : Tryz.prog.underlying 50 = some (.slice (Tryz.prog.elem 50)) := by rw [hel];exact Tryz.underlying50);obtain ⟨i0,hi,hz0,hz1,hz2⟩ := info_parts infoB;rw [run_slice_h (P := Tryz.prog) W2 50 A (List.replicate n (0:Int)).length c hu .i64 0 (by omega) (by omega),hel];simp [sizeOf,typeInfo,hi,hz1,sliced,Result.andThen]
  intro _
  cases A <;> simp [Addr.add]
 by_cases h0 : 0 < n
 ·have HB := Aside0.mk (Below.refl w.heap.size w);have Hcap := Aside0.mk hcap;clear hcap;go_enter Tryz.func82,Tryz.ntmps82;go_wp2_with (first | ((with_reducible refine zQz (b := .append) (xs := #[.tmp 20,.tmp 21]) rfl ?_);at_builtin;refine Kd.zKD (Kd.int .u32) (w0 := w) w.heap.size rfl (.tmp 20) (.tmp 21) 50 3 52 (.int .u32 0) 4 rfl Tryz.underlying50 Tryz.underlying3 infoB rfl (by decide) (by omega) (.slice none 0 0) ([] : List Int) (0 : Int) (n : Int) (fun _ => True) rfl rfl rfl (fun _ _ => trivial) (Kd.R_nil _ _ _ _ _) (by omega) (Below.refl _ _) (Nat.le_refl _) (by simp;omega) ?_;intro v105 w5 ho hb hg hat;rw [Int.toNat_natCast,List.nil_append] at ho;obtain ⟨v2,hr2,ho2⟩ := Hcap.out w5 w5 v105 ho;have HO5 := Aside0.mk ho2;have HB5 := Aside0.mk hb;clear ho hb hg hat ho2 Hcap))
  go_ret
  exact ⟨_,rfl,HO5.out,HB5.out⟩
 ·(obtain rfl : n = 0 := by omega);go_enter Tryz.func82,Tryz.ntmps82;go_wp2
  go_ret
  exact ⟨_,rfl,Kd.R_nil _ _ _ _ _,Below.refl _ _⟩
def zXA (l : List (List Int)) : Nat := (l.map List.length).sum
theorem zYD (l : List (List Int)) (k : Nat) (h : k < l.length) : zXA (l.take (k + 1)) = zXA (l.take k) + (l.getD k []).length := by
 rw [zZX l k [] h];simp [zXA]
theorem zYJ (l : List (List Int)) (k : Nat) : zXA (l.take k) ≤ zXA l := by
 (have h : zXA (l.take k ++ l.drop k) = zXA (l.take k) + zXA (l.drop k) := by simp only [zXA,List.map_append,List.sum_append]);rw [List.take_append_drop] at h;omega
theorem zKp (l : List (List Int)) : l.flatten.length = zXA l := by simp [zXA,List.length_flatten]
def slices_Concat.f (l0 : List (List Int)) : Option (List Int) := if l0.flatten.length < 35184372088832 then some l0.flatten else none
set_option maxRecDepth 100000 in
set_option maxHeartbeats 1000000 in
theorem slices_Concat.calls (A0 : Option Addr) (c0 : Nat) (l0 : List (List Int)) (r : List Int) (w : World) (hr0 : Kd.C (Kd.slice 52 (Kd.int .u32)) w A0 l0.length l0) (hc0 : l0.length ≤ c0) (h : slices_Concat.f l0 = some r) :
  Calls Tryz.prog 61 #[.slice A0 l0.length c0] w fun e w' => ∃ v0_ : Value,e = .returned (v0_) ∧ Kd.R (Kd.int .u32) 52 w' w.heap.size (fun _ => True) v0_ r ∧ Below w.heap.size w w' := by
 unfold slices_Concat.f at h;by_cases hl : l0.flatten.length < 35184372088832
 ·rw [if_pos hl] at h;obtain rfl := Option.some.inj h;clear h;rw [zKp] at hl;have HR0 := Aside0.mk hr0;have HLL := Aside0.mk hl;have HL0 := Kd.C_max hr0;clear hr0 hl;go_enter Tryz.func61,Tryz.ntmps61;go_wp2_with fail
  go_loop [3,11] (fun s i => ∃ (sv k : Nat),Aside0 (sv = zXA (l0.take k)) ∧ k ≤ l0.length ∧ sv < 35184372088832 ∧ i = .int .i64 k ∧ s = .int .i64 sv) (fun _ i => l0.length - (intOf i).toNat)
  case atStart => exact ⟨0,0,⟨rfl⟩,Nat.zero_le _,by omega,rfl,rfl⟩
  case round =>
   obtain ⟨sv,k,HE,hk,hs,rfl,rfl⟩ := hrel;by_cases hlt : k < l0.length
   ·obtain ⟨ad,A1,c1,rfl,hx,hc1,hr1⟩ := xatB HR0.out (k : Int) (by omega) (by omega);rw [Int.toNat_natCast] at hx
    have ht : sv + (xrdB l0 (k : Int)).length < 35184372088832 := by
     have h1 := zYD l0 k hlt;have h2 := zYJ l0 (k + 1);have h3 := HLL.out;have h4 := HE.out;have h5 : (xrdB l0 (k : Int)).length = (l0.getD k []).length := rfl;omega
    obtain ⟨x,Hx⟩ : ∃ x,Aside0 (x = xrdB l0 (k : Int)) := ⟨_,⟨rfl⟩⟩;rw [← Hx.out] at hx hc1 hr1 ht;clear hr1;go_wp2_with fail
    go_round
    case rel =>
     refine ⟨sv + x.length,k + 1,⟨?_⟩,by omega,by omega,by go_num,by go_num⟩;rw [zYD l0 k hlt,← HE.out,Hx.out]
     rfl
    case measure => simp [intOf];omega
   ·(obtain rfl : k = l0.length := by omega);have HT : Aside0 (sv = zXA l0) := ⟨by have := HE.out;rwa [List.take_of_length_le (Nat.le_refl _)] at this⟩;clear HE;go_wp2_with (go_at_call 82;refine (zGo sv _ (by omega)).mono ?_;rintro e w1 ⟨v1,rfl,ho1,hb1⟩;have HO1 := Aside0.mk ho1;have HB1 := Aside0.mk hb1;clear ho1 hb1)
    go_loopw [6,27] (fun v i wr => ∃ (k : Nat) (xs : List Int),Aside0 (xs = (l0.take k).flatten) ∧ k ≤ l0.length ∧ i = .int .i64 k ∧ Aside0 (Kd.R (Kd.int .u32) 52 wr w.heap.size (fun _ => True) v xs) ∧ Aside0 (Below w.heap.size w wr)) (fun _ i _ => l0.length - (intOf i).toNat)
    case atStart => exact ⟨0,[],⟨rfl⟩,Nat.zero_le _,rfl,HO1,HB1⟩
    case round =>
     obtain ⟨k,xs,HE,hk,rfl,HO,HB⟩ := hrel;by_cases hlt : k < l0.length
     ·obtain ⟨ad,A2,c2,rfl,hx,hc2,hr2⟩ := xatB (Kd.zQF HR0.out HB.out) (k : Int) (by omega) (by omega);rw [Int.toNat_natCast] at hx;obtain ⟨x,Hx⟩ : ∃ x,Aside0 (x = xrdB l0 (k : Int)) := ⟨_,⟨rfl⟩⟩;rw [← Hx.out] at hx hc2 hr2;have HR2 := Aside0.mk hr2;clear hr2
      have HS : Aside0 (xs.length + x.length ≤ 35184372088832) := by
       have h1 := zYD l0 k hlt;have h2 := zYJ l0 (k + 1);have h3 := HLL.out;(have h5 : x.length = (l0.getD k []).length := by rw [Hx.out];rfl);(have h6 : xs.length = zXA (l0.take k) := by rw [HE.out,zKp]);exact ⟨by omega⟩
      go_wp2_with (first | ((with_reducible refine zQz (b := .append) (xs := #[.tmp 31,.tmp 32]) rfl ?_);at_builtin;refine Kd.zXG (Kd.int .u32) (w0 := w) w.heap.size rfl (.tmp 31) (.tmp 32) 50 52 (.int .u32 0) 4 rfl Tryz.underlying50 infoB rfl (by decide) (by omega) _ xs x _ _ _ (fun _ => True) (fun _ => False) rfl rfl HO.out HR2.out (fun _ _ h => h) (fun _ h => h.elim) (fun _ _ => trivial) HB.out HB.out.size (by have := HS.out;omega) ?_;intro v105 w5 ho hb hg hat;have HO5 := Aside0.mk ho;have HB5 := Aside0.mk hb;clear ho hb hg hat))
      go_roundw
      case rel =>
       refine ⟨k + 1,xs ++ x,⟨?_⟩,by omega,by go_num,HO5,HB5⟩;rw [zZX l0 k [] hlt,HE.out,List.flatten_append,Hx.out];simp [xrdB]
      case measure => simp [intOf];omega
     ·have HT2 : Aside0 (xs = l0.flatten) := ⟨by have := HE.out;rwa [List.take_of_length_le (by omega)] at this⟩;clear HE;go_wp2_with fail
      go_ret
      exact ⟨_,rfl,by rw [← HT2.out];exact HO.out,HB.out⟩
 ·rw [if_neg hl] at h
  cases h
open Kd in
theorem own_made {α : Type} (d : Kd α) {W : World} (base e : Nat) {z : Value} (hz : z.cells.size = d.sz) (hs0 : 0 < d.sz) (z0 : α) {ok okp : Nat → Prop} (hzero : d.M W base okp z0 z.cells.toList) (hok : ∀ k,okp k → ok k) (hfresh : ok W.heap.size) (hbase : base ≤ W.heap.size) (n c : Nat) (hnc : n ≤ c) (hc : c ≤ 281474976710656) :
  d.R e (W.alloc (.cells (madeCells z.cells (c * d.sz)) e)) base ok (.slice (some ⟨W.heap.size,0,none⟩) n c) (List.replicate n z0) := by
 have hrep := zKc hz hs0 hzero c
 have hfull : d.R e (W.alloc (.cells (madeCells z.cells (c * d.sz)) e)) base ok (.slice (some ⟨W.heap.size,0,none⟩) c c) (List.replicate c z0) := by
  refine ⟨fun k hk => ?_,(madeCells z.cells (c * d.sz)).toList,?_,?_⟩
  ·(have : W.heap.size = k := by simpa [Value.ownBlock] using hk);subst this;exact hfresh
  ·have h2 := World.ownsRow_lit (base := base) (e := e) (size := d.sz) W (madeCells z.cells (c * d.sz)) c hbase (by simp only [maxLen];omega) (by have := hrep.1;simpa using this)
   simpa using h2
  ·refine hrep.imp_ (fun p c hp => d.M_mono (fun k hk => ⟨hok k hk.1,fun he => ?_⟩) (zJN (d.M_bound hp) (zQR (Below.refl _ _) _)));(have h3 : k = W.heap.size := by simpa [Value.ownBlock] using he);have := hk.2.2.1;omega
 have := zGW hfull (m := n) (by simpa using hnc)
 rwa [List.take_replicate,Nat.min_eq_left hnc] at this
section
variable {P : Program} {ops : Array Oper} {o : Oper} {rest : List Oper} {a : Act} {Q : Exit → Act → World → Prop}
open Kd in
theorem zKw {α : Type} (d : Kd α) {w0 W : World} (base e : Nat) (hgd : o.guard = none) {N : Tmp} (hd : o.dst = some N) (t : TypeId) (x y : Operand) (ho : o.op = .makeSlice t x y) (n c : Int) (hx : a.eval x = .int .i64 n) (hy : a.eval y = .int .i64 c)
  (ht : P.underlying t = some (.slice e)) (z : Value) (bytes : Nat) (hinfo : (P.info? e).map (fun i => (i.zero,i.size,i.bytes)) = some (some z,d.sz,bytes)) (hz : z.cells.size = d.sz) (hs0 : 0 < d.sz) (hb0 : 0 < bytes)
  (z0 : α) {ok okp : Nat → Prop} (hzero : d.M W base okp z0 z.cells.toList) (hok : ∀ k,okp k → ok k) (hfresh : ok W.heap.size) (h0 : 0 ≤ n) (hnc : n ≤ c) (hl : c.toNat * bytes ≤ 281474976710656) (HB : Below base w0 W) (hbase : base ≤ W.heap.size)
  (h : ∀ v1 w1,d.R e w1 base ok v1 (List.replicate n.toNat z0) → Below base w0 w1 → W.grownBy w1 none → (∃ b,v1.ownBlock = some b ∧ W.heap.size ≤ b) → wpList P ops Q rest (a.put o.dst v1) w1) : wpList P ops Q (o :: rest) a W := by
 obtain ⟨m,rfl⟩ := Int.eq_ofNat_of_zero_le h0;obtain ⟨c,rfl⟩ := Int.eq_ofNat_of_zero_le (Int.le_trans h0 hnc);simp only [Int.toNat_natCast] at hl h;obtain ⟨i0,hi,hzz⟩ := Option.map_eq_some_iff.1 hinfo;simp only [Prod.mk.injEq] at hzz;obtain ⟨hz0,hz1,hz2⟩ := hzz;have hm : c ≤ 281474976710656 := Nat.le_trans (Nat.le_mul_of_pos_right _ hb0) hl
 have hr := run_make (P := P) W t e i0 z ht hi hz0 .i64 .i64 (m : Int) (c : Int) (by omega) (by omega)
  (by
   have h3 : ((i0.bytes * c : Nat) : Int) ≤ 281474976710656 := by rw [hz2,Nat.mul_comm];omega
   rwa [Int.natCast_mul] at h3) (by omega)
 simp only [Int.toNat_natCast] at hr;rw [hz1] at hr;refine zKq hgd (show (execOp a.eval o).run P W = .ok (.value (.slice (some ⟨W.heap.size,0,none⟩) m c)) _ by simp [execOp,ho,hx,hy,hr]) (h _ _ (own_made d base e hz hs0 z0 hzero hok hfresh hbase m c (by omega) hm) (HB.alloc hbase _) (World.grownBy_alloc W _ none) ⟨W.heap.size,by simp [Value.ownBlock],Nat.le_refl _⟩)
end
end Go.Proofs.YtflcanpajgpghaaGreatDoor.Pr
end
section
namespace Go.Proofs.YtflcanpajgpghaaGreatDoor.Pr
open Go.RowKit Go.Proofs.YtflcanpajgpghaaGreatDoorW.PrintWords Go.Proofs.YtflcanpajgpghaaGreatDoorW.PrintLast Go.Proofs.YtflcanpajgpghaaGreatDoorW.PrintMore Go.Shelf
shelf_lay Lays.n129 Nm 129 at Tryz as Tryz.laysLen64
shelf_lay Lays.n128 Nm 128 at Tryz as Tryz.laysLen32
theorem zHY : Tryz.laysLen64_ren.f 129 = 58 := by kernel_rfl
theorem zHZ : Tryz.laysLen32_ren.f 128 = 60 := by kernel_rfl
def bits_Len64.f (a : Int) : Option Int := if 0 ≤ a ∧ a ≤ 18446744073709551615 then some (Lib.bitLen a.toNat : Int) else none
def bits_Len32.f (a : Int) : Option Int := if 0 ≤ a ∧ a ≤ 4294967295 then some (Lib.bitLen a.toNat : Int) else none
theorem bits_Len64.calls (a r : Int) (w : World) (h : bits_Len64.f a = some r) : Calls Tryz.prog 58 #[.int .u64 a] w fun e w' => e = .returned (.int .i64 r) ∧ Drawn0 w w' := by
 unfold bits_Len64.f at h;by_cases hb : 0 ≤ a ∧ a ≤ 18446744073709551615
 ·rw [if_pos hb] at h;obtain rfl := Option.some.inj h;have := Any.bits_Len64 { Tryz.laysLen64 with } a w hb.1 hb.2;rw [zHY] at this;exact this.mono fun e w' ⟨h1,h2⟩ => ⟨h1,by rw [h2];exact Drawn0.refl w⟩
 ·rw [if_neg hb] at h;exact absurd h (by simp)
theorem bits_Len32.calls (a r : Int) (w : World) (h : bits_Len32.f a = some r) : Calls Tryz.prog 60 #[.int .u32 a] w fun e w' => e = .returned (.int .i64 r) ∧ Drawn0 w w' := by
 unfold bits_Len32.f at h;by_cases hb : 0 ≤ a ∧ a ≤ 4294967295
 ·rw [if_pos hb] at h;obtain rfl := Option.some.inj h;have := Any.bits_Len32 { Tryz.laysLen32 with } a w hb.1 hb.2;rw [zHZ] at this;exact this.mono fun e w' ⟨h1,h2⟩ => ⟨h1,by rw [h2];exact Drawn0.refl w⟩
 ·rw [if_neg hb] at h;exact absurd h (by simp)
shelf_lay LaysM.n171 Nm 171 at Tryz as Tryz.laysItoa
theorem fItoa : Tryz.laysItoa_ren.f 171 = 40 := by kernel_rfl
theorem gPow : Tryz.prog.globalNamed "internal/strconv.uint64pow10" = some 1 := by kernel_rfl
def zYd (w : World) : Prop := Lib.TabIs Tryz.prog w "internal/strconv.uint64pow10" .u64 Lib.pow10Tab
theorem zJh {w w' : World} (h : zYd w) (hb : Below w.heap.size w w') : zYd w' := by
 have hlt := World.block_lt_of_cell? w _ (h.cell gPow 0 (by decide));unfold zYd Lib.TabIs World.var? at h ⊢;rw [gPow] at h ⊢;simp only [Option.bind_some] at h ⊢;rw [hb.block _ hlt];exact h
theorem zJg {w : World} (h : zYd w) (n : Nat) : zYd (w.drewN n) := h
theorem zGp {w : World} (h : zYd w) : zYd w.drew := h
theorem below_grow (w : World) (n : Nat) (os : Array Obj) : Below w.heap.size w (Go.Sort.grow (w.drewN n) os) := ⟨rfl,rfl,rfl,by
  show w.heap.size ≤ (w.heap ++ os).size
  rw [Array.size_append];omega,fun k hk => by
  show (w.heap ++ os)[k]? = w.heap[k]?
  exact Array.getElem?_append_left hk⟩
def zGQ (n : Int) : ByteArray := ⟨(Lib.itoa n).toArray⟩
def strconv_Itoa.f (a0 : Int) : Option ByteArray := if -9223372036854775808 ≤ a0 ∧ a0 ≤ 9223372036854775807 then some (zGQ a0) else none
theorem strconv_Itoa.calls (a0 : Int) (r : ByteArray) (w : World) (hG : zYd w) (h : strconv_Itoa.f a0 = some r) :
  Calls Tryz.prog 40 #[.int .i64 a0] w fun e w' => e = .returned (.string r) ∧ Below w.heap.size w w' := by
 unfold strconv_Itoa.f at h;by_cases hs : -9223372036854775808 ≤ a0 ∧ a0 ≤ 9223372036854775807
 ·rw [if_pos hs] at h;obtain rfl := Option.some.inj h;have := Any.strconv_Itoa { Tryz.laysItoa with } a0 hs.1 hs.2 w hG;rw [fItoa] at this;exact this.mono fun e w' ⟨h1,k,os,h2⟩ => ⟨h1,by rw [h2];exact below_grow w k os⟩
 ·rw [if_neg hs] at h;exact absurd h (by simp)
shelf_lay Lays.n105 Nm 105 at Tryz as Tryz.laysRepeat
theorem zJH : Builder.Extra Tryz.prog Tryz.laysRepeat_ren where
 sizeBuilder := by kernel_rfl
 liesBuilder := by kernel_rfl
 t5 := Tryz.laysRepeat.t5
 a5 := Tryz.laysRepeat.a5
 z5 := Tryz.laysRepeat.z5
 v5 := Tryz.laysRepeat.v5
 infoByte := by kernel_rfl
 cellsByte := by kernel_rfl
 sizeByte := by kernel_rfl
 neB5 := by decide
theorem zHB : Tryz.laysRepeat_ren.f 105 = 41 := by kernel_rfl
def zJZ (a0 : ByteArray) (n : Nat) : ByteArray := ⟨(Lib.repeatL a0.data.toList n).toArray⟩
def strings_Repeat.f (a0 : ByteArray) (a1 : Int) : Option ByteArray := if 0 ≤ a1 ∧ a1 ≤ 9223372036854775807 ∧ a0.size * a1.toNat ≤ 140737488355328 then some (zJZ a0 a1.toNat) else none
theorem strings_Repeat.calls (a0 : ByteArray) (a1 : Int) (r : ByteArray) (w : World) (h : strings_Repeat.f a0 a1 = some r) :
  Calls Tryz.prog 41 #[.string a0,.int .i64 a1] w fun e w' => e = .returned (.string r) ∧ Below w.heap.size w w' := by
 unfold strings_Repeat.f at h;by_cases hs : 0 ≤ a1 ∧ a1 ≤ 9223372036854775807 ∧ a0.size * a1.toNat ≤ 140737488355328
 ·rw [if_pos hs] at h;obtain rfl := Option.some.inj h;obtain ⟨n,rfl⟩ := Int.eq_ofNat_of_zero_le hs.1;have := Any.strings_Repeat Tryz.laysRepeat zJH a0 n w (by omega) hs.2.2;rw [zHB] at this;exact this
 ·rw [if_neg hs] at h;exact absurd h (by simp)
shelf_lay Lays.n162 Nm 162 at Tryz as Tryz.laysTrim
theorem fTrim : Tryz.laysTrim_ren.f 162 = 76 := by kernel_rfl
def zJT (a0 : ByteArray) (c : UInt8) : ByteArray := ⟨(Lib.trimRightB a0.data.toList c).toArray⟩
def strings_TrimRight.f (a0 a1 : ByteArray) : Option ByteArray := if a0.size ≤ 9223372036854775807 then (if a1 = ⟨#[48]⟩ then some (zJT a0 48) else none) else none
theorem strings_TrimRight.calls (a0 a1 : ByteArray) (r : ByteArray) (w : World) (h : strings_TrimRight.f a0 a1 = some r) :
  Calls Tryz.prog 76 #[.string a0,.string a1] w fun e w' => e = .returned (.string r) ∧ Drawn0 w w' := by
 unfold strings_TrimRight.f at h;by_cases hs : a0.size ≤ 9223372036854775807
 ·rw [if_pos hs] at h;by_cases h1 : a1 = ⟨#[48]⟩
  ·rw [if_pos h1] at h;obtain rfl := Option.some.inj h;subst h1;have := Any.strings_TrimRight_one Tryz.laysTrim a0 48 (by decide) w hs;rw [fTrim] at this;exact this.mono fun e w' ⟨h1,h2⟩ => ⟨h1,by rw [h2];exact Drawn0.refl w⟩
  ·rw [if_neg h1] at h;exact absurd h (by simp)
 ·rw [if_neg hs] at h;exact absurd h (by simp)
end Go.Proofs.YtflcanpajgpghaaGreatDoor.Pr
end
section
namespace Go.Proofs.YtflcanpajgpghaaGreatDoor.Pr
open Go.RowKit Go.Proofs.YtflcanpajgpghaaGreatDoorW.PrintWords Go.Proofs.YtflcanpajgpghaaGreatDoorW.PrintLast Go.Proofs.YtflcanpajgpghaaGreatDoorW.PrintMore
theorem am {p : Prop} (h : p) : Aside0 p := ⟨h⟩
abbrev zS_ : Array Value := #[.int .u64 0,.int .u64 0,.slice none 0 0,.int .i64 0,.int .u64 0,.string (⟨#[]⟩ : ByteArray),.slice none 0 0,.int .i64 0,.int .u64 0,.string (⟨#[]⟩ : ByteArray),.slice none 0 0]
theorem pB {p : Prop} (h : p := by repeat (first | (with_reducible first | exact HB.out | apply zQR | apply zQL | apply zQO | refine zQS ?_ (Aside0.out (by with_reducible assumption))) | exact HB.out)) : p := h
theorem pK {p q : Prop} (h : p) (f : p → q := by intro h_;(with_reducible repeat (first | refine zQc ?_ _ | refine zQf ?_ | refine zQd ?_ _));exact h_) : q := f h
theorem pkb {W W1 W2 : World} {g : Nat} {o : Obj} (h : W.heap[g]? = some o) (hb : Below W1.heap.size W1 W2) (f : W.heap[g]? = some o → W1.heap[g]? = some o := by intro h_;(with_reducible repeat (first | refine zQc ?_ _ | refine zQf ?_ | refine zQd ?_ _));exact h_) : W2.heap[g]? = some o := zKu (f h) hb
theorem pkl {W W1 : World} {g : Nat} {o : Obj} (h : W.heap[g]? = some o) (f : W.heap[g]? = some o → W1.heap[g]? = some o := by intro h_;(with_reducible repeat (first | refine zQc ?_ _ | refine zQf ?_ | refine zQd ?_ _));exact h_) : g < W1.heap.size := zZq (f h)
theorem pR {p q : Prop} (h : p) (f : p → q := by intro h_;(with_reducible repeat (first | apply Kd.zQo | apply Kd.zQj | apply Kd.zQs));exact h_) : q := f h
theorem pN {p q : Prop} (h : p) (f : p → q := by intro h_;(with_reducible repeat (first | apply Kd.zHK | apply Kd.zHI | apply Kd.zFm));exact h_) : q := f h
theorem pV {p q : Prop} (h : p) (f : p → q := by intro h_;(with_reducible repeat (first | apply Kd.zQp | apply Kd.zQm | apply Kd.zQq));exact h_) : q := f h
theorem pC {p q : Prop} (h : p) (f : p → q := by intro h_;(repeat (first | exact h_ | (with_reducible refine Kd.zHP ?_ _) | (with_reducible refine Kd.zKy ?_ _) | (with_reducible refine Kd.zJt ?_)))) : q := f h
theorem pS {p : Prop} (h : p := by first | rfl | (simp;done) | (simp [*];done)) : p := h
theorem pQ0 {p : Prop} (h : p := by repeat (first | exact Drawn0.refl _ | apply Drawn0.step)) : p := h
theorem oB {α β : Type} {x : Option α} {f : α → Option β} {r : β} (h : x.bind f = some r) : ∃ t,Aside0 (x = some t) ∧ f t = some r := by
 obtain ⟨t,a,b⟩ := Option.bind_eq_some_iff.mp h;exact ⟨t,⟨a⟩,b⟩
theorem pRn {p q : Prop} (h : p) (f : p → q := by intro h_;(with_reducible repeat (first | apply Kd.zQo | apply Kd.zQj | apply Kd.zQs));exact Kd.zQu h_ (fun _ hk => by simp only [ne_eq] at hk ⊢;simp only [hk,not_false_eq_true,and_self])) : q := f h
theorem pVn {p q : Prop} (h : p) (f : p → q := by intro h_;(with_reducible repeat (first | apply Kd.zQp | apply Kd.zQm | apply Kd.zQq));exact Kd.zQh h_ (fun _ hk => by simp only [ne_eq] at hk ⊢;simp only [hk,not_false_eq_true,and_self])) : q := f h
theorem bS {w w1 w2 : World} (hb : Below w1.heap.size w1 w2) (h : Below w.heap.size w w1 := by repeat (first | (with_reducible first | exact HB.out | apply zQR | apply zQL | apply zQO | refine zQS ?_ (Aside0.out (by with_reducible assumption))) | exact HB.out)) : Aside0 (Below w.heap.size w w2) := am (zBG h hb)
theorem pM {p : Prop} (h : p := by (try simp only [List.map_toArray,List.map_cons,List.map_nil]);first | done | rfl | (simp only [List.length_drop,List.length_take];rfl)) : p := h
theorem pE {p : Prop} (h : p := by first | rfl | (simp [zQy,zQx] <;> rfl) | (simp [*,zQy,zQx] <;> rfl)) : p := h
theorem pZ {p : Prop} (h : p := by first | exact Kd.R_nil _ _ _ _ _ | exact Kd.N_nil _ _ _ _ _ | exact Kd.V_nil _ _ _ _ _ | exact Kd.Q_nil _ _ _ _ _ | exact Kd.S_nil _ _ _ _ _) : p := h
theorem pD {p : Prop} [Decidable p] (h : decide p = true := by first | (with_reducible assumption) | assumption) : p := of_decide_eq_true h
theorem pG {p : Prop} (h : p := by first | (with_reducible exact HG.out) | (with_reducible exact zJg HG.out _) | exact zJh HG.out pB | exact zJh HG.out pB | (repeat (first | (with_reducible exact HG.out) | apply zJg | apply zGp))) : p := h
theorem pA {p : Prop} (h : p := by simp only [Act.put,List.setIfInBounds_toArray,List.set_cons_zero,List.set_cons_succ,i64_w,i32_w];try rfl) : p := h
theorem pA2 {p : Prop} (h : p := by simp only [zKh,Act.put,List.setIfInBounds_toArray,List.set_cons_zero,List.set_cons_succ];try rfl) : p := h
theorem pX {α : Type} {d : Kd α} {e : Nat} {w : World} {base : Nat} {ok : Nat → Prop} {v : Value} {xs : List α} {g t : Nat} {cells : Array Value} (h : d.R e w base ok v xs) (hb : w.heap[g]? = some (.cells cells t (0,0))) (ht : e ≠ t ∨ ∀ k,ok k → k ≠ g := by first | (left;decide) | (right;intro k_ h_;first | exact h_ | exact h_.2 | exact h_.1.2 | exact h_.2.2 | exact h_.2.1 | exact h_.1.1.2 | exact h_.1.2.2 | exact h_.2.2.1 | exact h_.2.2.2)) : some g ≠ v.ownBlock := by
 rcases ht with ht | ht
 ·exact Kd.R_ne h hb ht
 ·intro e_;exact ht g (h.1 g e_.symm) rfl
def bm (n k : Nat) : Array Bool := ((List.range n).map (Nat.testBit k)).toArray
theorem cz0 {W : World} {g : Nat} {t : TypeId} {x0 : Value} {l : List Value} (h : W.heap[g]? = some (.cells (List.toArray (x0 :: l)) t (0,0))) : W.cell? ⟨g,0,none⟩ = some x0 := (zQM h 0).trans rfl
theorem cz1 {W : World} {g : Nat} {t : TypeId} {x0 x1 : Value} {l : List Value} (h : W.heap[g]? = some (.cells (List.toArray (x0 :: x1 :: l)) t (0,0))) : W.cell? ⟨g,1,none⟩ = some x1 := (zQM h 1).trans rfl
theorem cz2 {W : World} {g : Nat} {t : TypeId} {x0 x1 x2 : Value} {l : List Value} (h : W.heap[g]? = some (.cells (List.toArray (x0 :: x1 :: x2 :: l)) t (0,0))) : W.cell? ⟨g,2,none⟩ = some x2 := (zQM h 2).trans rfl
theorem cz3 {W : World} {g : Nat} {t : TypeId} {x0 x1 x2 x3 : Value} {l : List Value} (h : W.heap[g]? = some (.cells (List.toArray (x0 :: x1 :: x2 :: x3 :: l)) t (0,0))) : W.cell? ⟨g,3,none⟩ = some x3 := (zQM h 3).trans rfl
theorem cf1 {W : World} {g : Nat} {t : TypeId} {x0 : Value} (h : W.heap[g]? = some (.cells #[x0] t (0,0))) : W.cell? ⟨g,0,none⟩ = some x0 ∧ W.frozen? ⟨g,0,none⟩ = false := ⟨(zQM h 0).trans rfl,zQJ h 0⟩
theorem cf2 {W : World} {g : Nat} {t : TypeId} {x0 x1 : Value} (h : W.heap[g]? = some (.cells #[x0,x1] t (0,0))) : W.cell? ⟨g,0,none⟩ = some x0 ∧ W.cell? ⟨g,1,none⟩ = some x1 ∧ W.frozen? ⟨g,0,none⟩ = false ∧ W.frozen? ⟨g,1,none⟩ = false := ⟨(zQM h 0).trans rfl,(zQM h 1).trans rfl,zQJ h 0,zQJ h 1⟩
theorem cf4 {W : World} {g : Nat} {t : TypeId} {x0 x1 x2 x3 : Value} (h : W.heap[g]? = some (.cells #[x0,x1,x2,x3] t (0,0))) : W.cell? ⟨g,0,none⟩ = some x0 ∧ W.cell? ⟨g,1,none⟩ = some x1 ∧ W.cell? ⟨g,2,none⟩ = some x2 ∧ W.cell? ⟨g,3,none⟩ = some x3 ∧ W.frozen? ⟨g,0,none⟩ = false ∧ W.frozen? ⟨g,1,none⟩ = false ∧ W.frozen? ⟨g,2,none⟩ = false ∧ W.frozen? ⟨g,3,none⟩ = false := ⟨(zQM h 0).trans rfl,(zQM h 1).trans rfl,(zQM h 2).trans rfl,(zQM h 3).trans rfl,zQJ h 0,zQJ h 1,zQJ h 2,zQJ h 3⟩
attribute [local go_sem] zXe zXc zXn zXm zQV zQU zXd zXb
def b_trim.l0 : Nat → List Int → Option (List Int)
 | 0,_ => none
 | k + 1,x0 => if (x0.length : Int) > 0 then (if 0 ≤ (wrap64 ((x0.length : Int) - 1)) then (if (wrap64 ((x0.length : Int) - 1)) < (x0.length : Int) then (if (rd x0 (wrap64 ((x0.length : Int) - 1))) = 0 then (if (wrap64 ((x0.length : Int) - 1)) ≤ (x0.length : Int) then (b_trim.l0 k (x0.take ((wrap64 ((x0.length : Int) - 1)) : Int).toNat)) else (none)) else (some x0)) else (none)) else (none)) else (some x0)
def b_trim.f (k : Nat) (l0 : List Int) : Option (List Int) := b_trim.l0 k l0
theorem b_trim.mono_l : ∀ k,(∀ y0,LeO (b_trim.l0 k y0) (b_trim.l0 (k + 1) y0))
 | 0 => fun _ r h => by simp [b_trim.l0] at h
 | k + 1 => by
  have ih0 := b_trim.mono_l k
  ·intro y0;unfold b_trim.l0;repeat' first
   | (with_reducible exact ih0 _)
   | (with_reducible exact LeO.refl _)
   | (with_reducible exact LeO.none _)
   | (with_reducible refine LeO.ite ?_ ?_)
   | (with_reducible refine LeO.bind ?_ (fun _ => ?_))
   | exact ih0 _
   | exact LeO.none _
   | refine LeO.ite ?_ ?_
   | refine LeO.bind ?_ (fun _ => ?_)
theorem b_trim.mono : ∀ a0 k,LeO (b_trim.f k a0) (b_trim.f (k + 1) a0) := by
 intro a0 k;have ih0 := b_trim.mono_l k;unfold b_trim.f
 repeat' first
   | (with_reducible exact ih0 _)
   | (with_reducible exact LeO.refl _)
   | (with_reducible exact LeO.none _)
   | (with_reducible refine LeO.ite ?_ ?_)
   | (with_reducible refine LeO.bind ?_ (fun _ => ?_))
   | exact ih0 _
   | exact LeO.none _
   | refine LeO.ite ?_ ?_
   | refine LeO.bind ?_ (fun _ => ?_)
set_option maxHeartbeats 8000000 in
set_option maxRecDepth 100000 in
theorem b_trim.calls (k : Nat) (P0_ : Nat → Prop) (A0 : Option Addr) (c0 : Nat) (l0 : List Int) (r : List Int) (w : World) (hs0 : Kd.V (Kd.int .u32) 52 w w.heap.size (fun k_ => P0_ k_) (.slice A0 l0.length c0) l0) (h : b_trim.f k l0 = some r) :
  Calls Tryz.prog 57 #[.slice A0 l0.length c0] w fun e w' => ∃ v0_ : Value,e = .returned (v0_) ∧ Kd.V (Kd.int .u32) 52 w' w.heap.size (fun k_ => (P0_ k_ ∨ w.heap.size ≤ k_)) v0_ r ∧ Below w.heap.size w w' := by
 have HO0 := am (show Kd.V (Kd.int .u32) 52 w w.heap.size (fun k_ => (P0_ k_ ∨ w.heap.size ≤ k_)) (.slice A0 l0.length c0) l0 from Kd.zQh hs0 (fun k_ hk => .inl hk));have HB := am (Below.refl w.heap.size w);have H : (b_trim.l0 k l0) = some r := h;clear h;have H' := am H;clear H;go_enter Tryz.func57,Tryz.ntmps57;go_wp2
 go_loopg [0] k (fun kq v0 w' => ∃ (x0_1 : List Int),Aside0 (b_trim.l0 kq x0_1 = some r) ∧ Aside0 (kq ≤ k) ∧ Aside0 (Kd.V (Kd.int .u32) 52 w' w.heap.size (fun k_ => (P0_ k_ ∨ w.heap.size ≤ k_)) v0 x0_1) ∧ Aside0 (Below w.heap.size w w'))
 case atStart => exact ⟨(l0),H',⟨Nat.le_refl _⟩,⟨by (with_reducible repeat (first | apply Kd.zQp | apply Kd.zQm | apply Kd.zQq));exact HO0.out⟩,⟨pB⟩⟩
 case round =>
  clear H';obtain ⟨x0_1,HA,HK1,HO_0,HB⟩ := hrel
  cases gk with
  | zero => exact absurd HA.out (by simp [b_trim.l0])
  | succ k1 =>
   have H := HA.out;clear HA;simp only [b_trim.l0] at H;by_cases c2 : (x0_1.length : Int) > 0
   ·rw [if_pos c2] at H;have c2b0 : decide (0 < (x0_1.length : Int)) = true := decide_eq_true c2;have c2b1 : decide (0 < x0_1.length) = true := decide_eq_true (by omega);clear c2;obtain ⟨ji3,hji3⟩ : ∃ j_ : Int,(wrap64 ((x0_1.length : Int) - 1)) = j_ := ⟨_,rfl⟩;(replace H : (if 0 ≤ (ji3) then (if (ji3) < (x0_1.length : Int) then (if (rd x0_1 (ji3)) = 0 then (if (ji3) ≤ (x0_1.length : Int) then (b_trim.l0 k1 (x0_1.take ((ji3) : Int).toNat)) else (none)) else (some x0_1)) else (none)) else (none)) = some r := by first | (rw [hji3] at H;exact H) | (simp only [hji3] at H ⊢;exact H));have hji3w : (IntKind.i64.wrap ((x0_1.length : Int) - 1)) = ji3 := (i64_w _).trans hji3;by_cases c4 : 0 ≤ (ji3)
    ·rw [if_pos c4] at H;have c4b0 : decide (0 ≤ (ji3)) = true := decide_eq_true c4;clear c4;by_cases c5 : (ji3) < (x0_1.length : Int)
     ·rw [if_pos c5] at H;have c5b0 : decide ((ji3) < (x0_1.length : Int)) = true := decide_eq_true c5;clear c5;by_cases c6 : (rd x0_1 (ji3)) = 0
      ·rw [if_pos c6] at H;have c6b0 : ((rd x0_1 (ji3)) == 0) = true := beq_iff_eq.mpr c6;have c6b1 : ((rd x0_1 (ji3)) != 0) = false := bne_eq_false_iff_eq.mpr c6;clear c6;have c7b0 := eq_true (pD : 0 ≤ (ji3));by_cases c8 : (ji3) ≤ (x0_1.length : Int)
       ·rw [if_pos c8] at H;have c8b0 := eq_true c8;have c8b1 : decide ((ji3) ≤ (x0_1.length : Int)) = true := decide_eq_true c8;clear c8;obtain ⟨y102,hy102⟩ : ∃ y_ : List Int,y_ = (x0_1.take ((ji3) : Int).toNat) := ⟨_,rfl⟩;(replace H : (b_trim.l0 k1 y102) = some r := by first | (rw [hy102];with_reducible exact H) | (have H2_ := (Option.bind_some _ _).symm.trans H;rw [hy102];with_reducible exact H2_) | (have H2_ := (Option.bind_some _ _).symm.trans H;with_reducible exact H2_) | with_reducible exact H | (rw [hy102];exact H) | exact H);have Ny102 := am hy102;clear hy102;have H' := am H;clear H;obtain ⟨Ao9,co9,eo9⟩ := Kd.zQA HO_0.out;subst eo9;have p101 : 0 ≤ ((ji3) : Int) := pD;have q101 : (ji3) < (x0_1.length : Int) := pD;obtain ⟨ad101,e101,hx101_0⟩ := Kd.zXg (Kd.zQg HO_0.out).2.2 (ji3) p101 q101
        cases e101
        replace p101 := eq_true p101;replace q101 := eq_true q101;have q10 : ((ji3) : Int) ≤ ((x0_1.length : Int) : Int) := pD;obtain ⟨i010,hi010,_,hsz10,_⟩ := info_parts zXV;have hroom10 : x0_1.length ≤ co9 := (Kd.zQg HO_0.out).2.1;have hC10 : Kd.F (Kd.int .u32) _ _ (some ad101) x0_1.length x0_1 := (Kd.V_at (base := w.heap.size) HO_0.out).2.2;have hcut10 := zGV (P := Tryz.prog) 50 52 .i64 Tryz.underlying50 hi010 (some ad101) x0_1.length co9 (ji3) pD q10 hroom10;have hr10 := Kd.zGY (m := ((ji3) : Int).toNat) hC10 (by omega);have hy10 : y102.length = ((ji3) : Int).toNat := (by rw [Ny102.out,List.length_take];omega);rw [← Ny102.out] at hr10;rw [← hy10] at hcut10;have HO106 := am (show Kd.V (Kd.int .u32) 52 _ w.heap.size _ (.slice (some ad101) y102.length co9) y102 from Kd.V_mk (by omega) hr10);have HC106 := am (show y102.length ≤ co9 from by omega);clear hr10 hC10 hroom10 hi010 hsz10;have KY10 := am hy10;clear hy10;replace q10 := eq_true q10;go_wp2
        go_roundg k1
        case measure => have := HK1.out;omega
        case rel => exact ⟨(y102),H',⟨by have := HK1.out;omega⟩,⟨by (with_reducible repeat (first | apply Kd.zQp | apply Kd.zQm | apply Kd.zQq));exact HO106.out⟩,⟨pB⟩⟩
       ·rw [if_neg c8] at H
        cases H
      ·rw [if_neg c6] at H;have c6b0 : ((rd x0_1 (ji3)) == 0) = false := beq_eq_false_iff_ne.mpr c6;have c6b1 : ((rd x0_1 (ji3)) != 0) = true := bne_iff_ne.mpr c6;obtain rfl := Option.some.inj H;obtain ⟨Ao11,co11,eo11⟩ := Kd.zQA HO_0.out;subst eo11;have p101 : 0 ≤ ((ji3) : Int) := pD;have q101 : (ji3) < (x0_1.length : Int) := pD;obtain ⟨ad101,e101,hx101_0⟩ := Kd.zXg (Kd.zQg HO_0.out).2.2 (ji3) p101 q101
       cases e101
       replace p101 := eq_true p101;replace q101 := eq_true q101;go_wp2
       go_ret
       exact ⟨_,by first | rfl | (simp [zQy,zQx] <;> rfl) | (simp only [← hji3];first | rfl | (simp [zQy,zQx] <;> rfl)) | (simp [*,zQy,zQx] <;> rfl),by (with_reducible repeat (first | apply Kd.zQp | apply Kd.zQm | apply Kd.zQq));exact HO_0.out,pB⟩
     ·rw [if_neg c5] at H
      cases H
    ·rw [if_neg c4] at H
     cases H
   ·rw [if_neg c2] at H;have c2b0 : decide (0 < (x0_1.length : Int)) = false := decide_eq_false c2;have c2b1 : decide (0 < x0_1.length) = false := decide_eq_false (by omega);clear c2;obtain rfl := Option.some.inj H;obtain ⟨Ao12,co12,eo12⟩ := Kd.zQA HO_0.out;subst eo12;go_wp2
    go_ret
    exact ⟨_,pE,by (with_reducible repeat (first | apply Kd.zQp | apply Kd.zQm | apply Kd.zQq));exact HO_0.out,pB⟩
def b_plus.l0 : Nat → List Int → List Int → Int → List Int → Int → Int → Option (List Int)
 | 0,_,_,_,_,_,_ => none
 | k + 1,x1,x5,x6,x20,x21,x22 => if x22 < x21 then (if 0 ≤ x22 then (if x22 < (x20.length : Int) then (if x22 < (x1.length : Int) then (if x5.length < 35184372088832 then (b_plus.l0 k x1 (x5 ++ [(IntKind.u64.wrap ((IntKind.u64.wrap (x6 + (IntKind.u64.wrap (rd x20 x22)))) + (IntKind.u64.wrap (rd x1 x22)))) % 4294967296]) ((IntKind.u64.wrap ((IntKind.u64.wrap (x6 + (IntKind.u64.wrap (rd x20 x22)))) + (IntKind.u64.wrap (rd x1 x22)))) / 4294967296) x20 x21 (wrap64 (x22 + 1))) else (none)) else (if x5.length < 35184372088832 then (b_plus.l0 k x1 (x5 ++ [(IntKind.u64.wrap (x6 + (IntKind.u64.wrap (rd x20 x22)))) % 4294967296]) ((IntKind.u64.wrap (x6 + (IntKind.u64.wrap (rd x20 x22)))) / 4294967296) x20 x21 (wrap64 (x22 + 1))) else (none))) else (none)) else (none)) else (if x5.length < 35184372088832 then ((b_trim.f k (x5 ++ [(x6) % 4294967296])).bind fun t121 => (some t121)) else (none))
def b_plus.fg (k : Nat) (l0 : List Int) (l1 : List Int) : Option (List Int) := if 0 ≤ wrap64 ((l0.length : Int) + 1) then (if (wrap64 ((l0.length : Int) + 1) : Int).toNat ≤ 70368744177664 then (b_plus.l0 k l1 (List.replicate 0 0) 0 l0 (l0.length : Int) 0) else (none)) else (none)
theorem b_plus.mono_l : ∀ k,(∀ y0 y1 y2 y3 y4 y5,LeO (b_plus.l0 k y0 y1 y2 y3 y4 y5) (b_plus.l0 (k + 1) y0 y1 y2 y3 y4 y5))
 | 0 => fun _ _ _ _ _ _ r h => by simp [b_plus.l0] at h
 | k + 1 => by
  have ih0 := b_plus.mono_l k
  ·intro y0 y1 y2 y3 y4 y5;unfold b_plus.l0;repeat' first
   | (with_reducible exact ih0 _ _ _ _ _ _)
   | (with_reducible exact b_trim.mono _ _)
   | (with_reducible exact LeO.refl _)
   | (with_reducible exact LeO.none _)
   | (with_reducible refine LeO.ite ?_ ?_)
   | (with_reducible refine LeO.bind ?_ (fun _ => ?_))
   | exact ih0 _ _ _ _ _ _
   | exact b_trim.mono _ _
   | exact LeO.none _
   | refine LeO.ite ?_ ?_
   | refine LeO.bind ?_ (fun _ => ?_)
theorem b_plus.zGO : ∀ a0 a1 k,LeO (b_plus.fg k a0 a1) (b_plus.fg (k + 1) a0 a1) := by
 intro a0 a1 k;have ih0 := b_plus.mono_l k;unfold b_plus.fg
 repeat' first
   | (with_reducible exact ih0 _ _ _ _ _ _)
   | (with_reducible exact b_trim.mono _ _)
   | (with_reducible exact LeO.refl _)
   | (with_reducible exact LeO.none _)
   | (with_reducible refine LeO.ite ?_ ?_)
   | (with_reducible refine LeO.bind ?_ (fun _ => ?_))
   | exact ih0 _ _ _ _ _ _
   | exact b_trim.mono _ _
   | exact LeO.none _
   | refine LeO.ite ?_ ?_
   | refine LeO.bind ?_ (fun _ => ?_)
set_option maxHeartbeats 8000000 in
set_option maxRecDepth 100000 in
theorem b_plus.zGz (k : Nat) (A0 : Option Addr) (c0 : Nat) (l0 : List Int) (A1 : Option Addr) (c1 : Nat) (l1 : List Int) (r : List Int) (w : World) (hr0 : Kd.C (Kd.int .u32) w A0 l0.length l0) (hc0 : l0.length ≤ c0) (hr1 : Kd.C (Kd.int .u32) w A1 l1.length l1) (hc1 : l1.length ≤ c1) (hge : ¬ (l0.length : Int) < (l1.length : Int)) (h : b_plus.fg k l0 l1 = some r) :
  Calls Tryz.prog 44 #[.slice A0 l0.length c0,.slice A1 l1.length c1] w fun e w' => ∃ v0_ : Value,e = .returned (v0_) ∧ Kd.V (Kd.int .u32) 52 w' w.heap.size (fun k_ => (w.heap.size ≤ k_)) v0_ r ∧ Below w.heap.size w w' := by
 have cgeb : decide ((l0.length : Int) < (l1.length : Int)) = false := decide_eq_false hge;have HR0 := am hr0;have HC0 := am hc0;clear hr0 hc0;have HR1 := am hr1;have HC1 := am hc1;clear hr1 hc1;have HB := am (Below.refl w.heap.size w);have H : (if 0 ≤ wrap64 ((l0.length : Int) + 1) then (if (wrap64 ((l0.length : Int) + 1) : Int).toNat ≤ 70368744177664 then (b_plus.l0 k l1 (List.replicate 0 0) 0 l0 (l0.length : Int) 0) else (none)) else (none)) = some r := h;clear h;by_cases c3 : 0 ≤ wrap64 ((l0.length : Int) + 1)
 ·rw [if_pos c3] at H;have c3b0 := eq_true c3;have c3b1 : decide (0 ≤ wrap64 ((l0.length : Int) + 1)) = true := decide_eq_true c3;by_cases c4 : (wrap64 ((l0.length : Int) + 1) : Int).toNat ≤ 70368744177664
  ·rw [if_pos c4] at H;have c4b0 := eq_true c4;have c4b1 : decide ((wrap64 ((l0.length : Int) + 1) : Int).toNat ≤ 70368744177664) = true := decide_eq_true c4;obtain ⟨y107,hy107⟩ : ∃ y_ : List Int,y_ = (List.replicate 0 0) := ⟨_,rfl⟩;(replace H : (b_plus.l0 k l1 y107 0 l0 (l0.length : Int) 0) = some r := by first | (rw [hy107];with_reducible exact H) | (have H2_ := (Option.bind_some _ _).symm.trans H;rw [hy107];with_reducible exact H2_) | (have H2_ := (Option.bind_some _ _).symm.trans H;with_reducible exact H2_) | with_reducible exact H | (rw [hy107];exact H) | exact H);have Ny107 := am hy107;clear hy107;have H' := am H;clear H;go_enter Tryz.func44,Tryz.ntmps44;go_wp2_with (first | ((with_reducible refine zQE (N := 19) rfl ?_);refine zKw (Kd.int .u32) _ 52 rfl (N := 19) rfl 50 _ _ rfl 0 (wrap64 ((l0.length : Int) + 1)) rfl rfl Tryz.underlying50 (.int .u32 0) 4 zXV rfl (by decide) (by omega) 0 (ok := fun _ => True) (okp := fun _ => True) rfl (fun _ hk => hk) trivial (by omega) pD (Nat.le_trans (Nat.mul_le_mul_right _ (pD : (wrap64 ((l0.length : Int) + 1)).toNat ≤ 70368744177664)) (by omega)) (Below.refl _ _) (Nat.le_refl _) ?_;intro v108 w5 ho6 hb hg_ hnew_;clear hg_ hnew_;(first | rw [← Ny107.out] at ho6 | (simp only [Int.reduceToNat] at ho6;rw [← Ny107.out] at ho6));have HO109 := am (Kd.zQr (Kd.zXv (M := fun k_ => (w.heap.size ≤ k_)) ho6 (zQa pB) (fun k_ h_ => h_)) (zQa pB));replace HB := bS hb;clear hb ho6))
   go_loopg [5,6,22] k (fun kq v5 v6 v22 w' => ∃ (x5_1 : List Int) (x6_1 : Int) (x22_1 : Int),v6 = .int .u64 x6_1 ∧ v22 = .int .i64 x22_1 ∧ Aside0 (b_plus.l0 kq l1 x5_1 x6_1 l0 (l0.length : Int) x22_1 = some r) ∧ Aside0 (kq ≤ k) ∧ Aside0 (Kd.R (Kd.int .u32) 52 w' w.heap.size (fun k_ => (w.heap.size ≤ k_)) v5 x5_1) ∧ Aside0 (Below w.heap.size w w'))
   case atStart => exact ⟨(y107),(0),(0),pS,pS,H',⟨Nat.le_refl _⟩,⟨by (with_reducible repeat (first | apply Kd.zQo | apply Kd.zQj | apply Kd.zQs));exact Kd.zQu HO109.out (fun _ hk => hk.1)⟩,⟨pB⟩⟩
   case round =>
    clear H';(try clear c1);(try clear p2);(try clear c3);(try clear c3b0);(try clear c3b1);(try clear c4);(try clear c4b0);(try clear c4b1);(try clear p6);obtain ⟨x5_1,x6_1,x22_1,rfl,rfl,HA,HK1,HO_5,HB⟩ := hrel
    cases gk with
    | zero => exact absurd HA.out (by simp [b_plus.l0])
    | succ k1 =>
     have H := HA.out;clear HA;simp only [b_plus.l0] at H;by_cases c7 : x22_1 < (l0.length : Int)
     ·rw [if_pos c7] at H;have c7b0 : decide (x22_1 < (l0.length : Int)) = true := decide_eq_true c7;clear c7;by_cases c8 : 0 ≤ x22_1
      ·rw [if_pos c8] at H;have c8b0 : decide (0 ≤ x22_1) = true := decide_eq_true c8;clear c8;by_cases c9 : x22_1 < (l0.length : Int)
       ·rw [if_pos c9] at H;have c9b0 : decide (x22_1 < (l0.length : Int)) = true := decide_eq_true c9;clear c9;by_cases c10 : x22_1 < (l1.length : Int)
        ·rw [if_pos c10] at H;have c10b0 : decide (x22_1 < (l1.length : Int)) = true := decide_eq_true c10;clear c10;by_cases c11 : x5_1.length < 35184372088832
         ·rw [if_pos c11] at H;have LMc11 := am c11;clear c11;obtain ⟨y112,hy112⟩ : ∃ y_ : List Int,y_ = (x5_1 ++ [(IntKind.u64.wrap ((IntKind.u64.wrap (x6_1 + (IntKind.u64.wrap (rd l0 x22_1)))) + (IntKind.u64.wrap (rd l1 x22_1)))) % 4294967296]) := ⟨_,rfl⟩;(replace H : (b_plus.l0 k1 l1 y112 ((IntKind.u64.wrap ((IntKind.u64.wrap (x6_1 + (IntKind.u64.wrap (rd l0 x22_1)))) + (IntKind.u64.wrap (rd l1 x22_1)))) / 4294967296) l0 (l0.length : Int) (wrap64 (x22_1 + 1))) = some r := by first | (rw [hy112];with_reducible exact H) | (have H2_ := (Option.bind_some _ _).symm.trans H;rw [hy112];with_reducible exact H2_) | (have H2_ := (Option.bind_some _ _).symm.trans H;with_reducible exact H2_) | with_reducible exact H | (rw [hy112];exact H) | exact H);have Ny112 := am hy112;clear hy112;have H' := am H;clear H;have p110 : 0 ≤ (x22_1 : Int) := pD;have q110 : x22_1 < (l0.length : Int) := pD;obtain ⟨ad110,e110,hx110_0⟩ := Kd.zXg HR0.out x22_1 p110 q110
          cases e110
          replace hx110_0 := (HB.out.cell (World.block_lt_of_cell? w _ hx110_0)).trans hx110_0;replace p110 := eq_true p110;replace q110 := eq_true q110;have p111 : 0 ≤ (x22_1 : Int) := pD;have q111 : x22_1 < (l1.length : Int) := pD;obtain ⟨ad111,e111,hx111_0⟩ := Kd.zXg HR1.out x22_1 p111 q111
          cases e111
          replace hx111_0 := (HB.out.cell (World.block_lt_of_cell? w _ hx111_0)).trans hx111_0;replace p111 := eq_true p111;replace q111 := eq_true q111;go_wp2_with (first | ((with_reducible refine zQz (b := .append) (xs := #[.tmp 42,.tmp 45]) rfl ?_);at_builtin;refine Kd.zQW (Kd.int .u32) (w0 := w) w.heap.size rfl (.tmp 42) (.tmp 45) 50 52 (.int .u32 0) 4 rfl Tryz.underlying50 zXV rfl (by decide) (by omega) u5 x5_1 ((IntKind.u64.wrap ((IntKind.u64.wrap (x6_1 + (IntKind.u64.wrap (rd l0 x22_1)))) + (IntKind.u64.wrap (rd l1 x22_1)))) % 4294967296) [.int .u32 ((IntKind.u64.wrap ((IntKind.u64.wrap (x6_1 + (IntKind.u64.wrap (rd l0 x22_1)))) + (IntKind.u64.wrap (rd l1 x22_1)))) % 4294967296)] (fun k_ => (w.heap.size ≤ k_)) (fun _ => False) rfl rfl ?aP (fun _ hk => hk.elim) ?aF ?aO ?aB ?aS ?aL ?_;(case aP => exact rfl);(case aB => exact pB);(case aF => exact (fun k_ hk => (Nat.le_trans (zQa pB) hk)));(case aO => exact (pR HO_5.out));(case aS => exact (zQa pB));(case aL => have := LMc11.out;omega);intro v113 w12 ho hb hg hat;rw [← Ny112.out] at ho;replace HB := am (hb);have HO114 := am (ho);clear HO_5;clear ho hb hg hat))
          go_roundg k1
          case measure => have := HK1.out;omega
          case rel => exact ⟨(y112),((IntKind.u64.wrap ((IntKind.u64.wrap (x6_1 + (IntKind.u64.wrap (rd l0 x22_1)))) + (IntKind.u64.wrap (rd l1 x22_1)))) / 4294967296),(wrap64 (x22_1 + 1)),pS,pS,H',⟨by have := HK1.out;omega⟩,⟨by (with_reducible repeat (first | apply Kd.zQo | apply Kd.zQj | apply Kd.zQs));exact HO114.out⟩,⟨pB⟩⟩
         ·rw [if_neg c11] at H
          cases H
        ·rw [if_neg c10] at H;have c10b0 : decide (x22_1 < (l1.length : Int)) = false := decide_eq_false c10;clear c10;by_cases c13 : x5_1.length < 35184372088832
         ·rw [if_pos c13] at H;have LMc13 := am c13;clear c13;obtain ⟨y115,hy115⟩ : ∃ y_ : List Int,y_ = (x5_1 ++ [(IntKind.u64.wrap (x6_1 + (IntKind.u64.wrap (rd l0 x22_1)))) % 4294967296]) := ⟨_,rfl⟩;(replace H : (b_plus.l0 k1 l1 y115 ((IntKind.u64.wrap (x6_1 + (IntKind.u64.wrap (rd l0 x22_1)))) / 4294967296) l0 (l0.length : Int) (wrap64 (x22_1 + 1))) = some r := by first | (rw [hy115];with_reducible exact H) | (have H2_ := (Option.bind_some _ _).symm.trans H;rw [hy115];with_reducible exact H2_) | (have H2_ := (Option.bind_some _ _).symm.trans H;with_reducible exact H2_) | with_reducible exact H | (rw [hy115];exact H) | exact H);have Ny115 := am hy115;clear hy115;have H' := am H;clear H;have p110 : 0 ≤ (x22_1 : Int) := pD;have q110 : x22_1 < (l0.length : Int) := pD;obtain ⟨ad110,e110,hx110_0⟩ := Kd.zXg HR0.out x22_1 p110 q110
          cases e110
          replace hx110_0 := (HB.out.cell (World.block_lt_of_cell? w _ hx110_0)).trans hx110_0;replace p110 := eq_true p110;replace q110 := eq_true q110;go_wp2_with (first | ((with_reducible refine zQz (b := .append) (xs := #[.tmp 42,.tmp 45]) rfl ?_);at_builtin;refine Kd.zQW (Kd.int .u32) (w0 := w) w.heap.size rfl (.tmp 42) (.tmp 45) 50 52 (.int .u32 0) 4 rfl Tryz.underlying50 zXV rfl (by decide) (by omega) u5 x5_1 ((IntKind.u64.wrap (x6_1 + (IntKind.u64.wrap (rd l0 x22_1)))) % 4294967296) [.int .u32 ((IntKind.u64.wrap (x6_1 + (IntKind.u64.wrap (rd l0 x22_1)))) % 4294967296)] (fun k_ => (w.heap.size ≤ k_)) (fun _ => False) rfl rfl ?aP (fun _ hk => hk.elim) ?aF ?aO ?aB ?aS ?aL ?_;(case aP => exact rfl);(case aB => exact pB);(case aF => exact (fun k_ hk => (Nat.le_trans (zQa pB) hk)));(case aO => exact (pR HO_5.out));(case aS => exact (zQa pB));(case aL => have := LMc13.out;omega);intro v116 w14 ho hb hg hat;rw [← Ny115.out] at ho;replace HB := am (hb);have HO117 := am (ho);clear HO_5;clear ho hb hg hat))
          go_roundg k1
          case measure => have := HK1.out;omega
          case rel => exact ⟨(y115),((IntKind.u64.wrap (x6_1 + (IntKind.u64.wrap (rd l0 x22_1)))) / 4294967296),(wrap64 (x22_1 + 1)),pS,pS,H',⟨by have := HK1.out;omega⟩,⟨by (with_reducible repeat (first | apply Kd.zQo | apply Kd.zQj | apply Kd.zQs));exact HO117.out⟩,⟨pB⟩⟩
         ·rw [if_neg c13] at H
          cases H
       ·rw [if_neg c9] at H
        cases H
      ·rw [if_neg c8] at H
       cases H
     ·rw [if_neg c7] at H;have c7b0 : decide (x22_1 < (l0.length : Int)) = false := decide_eq_false c7;clear c7;by_cases c15 : x5_1.length < 35184372088832
      ·rw [if_pos c15] at H;have LMc15 := am c15;clear c15;obtain ⟨y118,hy118⟩ : ∃ y_ : List Int,y_ = (x5_1 ++ [(x6_1) % 4294967296]) := ⟨_,rfl⟩;(replace H : ((b_trim.f k1 y118).bind fun t121 => (some t121)) = some r := by first | (rw [hy118];with_reducible exact H) | (have H2_ := (Option.bind_some _ _).symm.trans H;rw [hy118];with_reducible exact H2_) | (have H2_ := (Option.bind_some _ _).symm.trans H;with_reducible exact H2_) | with_reducible exact H | (rw [hy118];exact H) | exact H);have Ny118 := am hy118;clear hy118;obtain ⟨t121,A16,H⟩ := oB H;(try dsimp only at H);obtain rfl := Option.some.inj H;go_wp2_with (first | ((with_reducible refine zQz (b := .append) (xs := #[.tmp 50,.tmp 53]) rfl ?_);at_builtin;refine Kd.zQW (Kd.int .u32) (w0 := w) w.heap.size rfl (.tmp 50) (.tmp 53) 50 52 (.int .u32 0) 4 rfl Tryz.underlying50 zXV rfl (by decide) (by omega) u5 x5_1 ((x6_1) % 4294967296) [.int .u32 ((x6_1) % 4294967296)] (fun k_ => (w.heap.size ≤ k_)) (fun _ => False) rfl rfl ?aP (fun _ hk => hk.elim) ?aF ?aO ?aB ?aS ?aL ?_;(case aP => exact rfl);(case aB => exact pB);(case aF => exact (fun k_ hk => (Nat.le_trans (zQa pB) hk)));(case aO => exact (pR HO_5.out));(case aS => exact (zQa pB));(case aL => have := LMc15.out;omega);intro v119 w17 ho hb hg hat;rw [← Ny118.out] at ho;replace HB := am (hb);have HO120 := am (ho);clear HO_5;clear ho hb hg hat;obtain ⟨Ao18,co18,eo18⟩ := Kd.zQv HO120.out;subst eo18) | ((with_reducible refine zQb (f := 57) rfl ?_);refine zQi (some 55) rfl rfl Tryz.func57 (by kernel_rfl) rfl #[.slice Ao18 y118.length co18] rfl pM ?_;(with_reducible refine (b_trim.calls k1 (fun k_ => some k_ = (.slice Ao18 y118.length co18 : Value).ownBlock) _ _ y118 t121 _ ?side1 A16.out).mono ?_);(case side1 => exact Kd.R_V (Kd.zXt rfl (HO120.out)));rintro e w19 ⟨v122,rfl,ho0,hb⟩;refine ⟨_,rfl,?_⟩;have HO123 := am (Kd.zQQ (Kd.zQh (ok' := fun k_ => (w.heap.size ≤ k_)) ho0 (fun k_ hk_ => Or.elim hk_ (fun hs_ => ((HO120.out).1 k_ hs_.symm)) (fun hn_ => (Nat.le_trans (zQa pB) hn_)))) (zQa pB));replace HO120 := am (Kd.zQw (pR HO120.out) hb);replace HB := bS hb;(try clear hb);(try clear ho0)))
       go_ret
       exact ⟨_,pE,by (with_reducible repeat (first | apply Kd.zQp | apply Kd.zQm | apply Kd.zQq));exact HO123.out,pB⟩
      ·rw [if_neg c15] at H
       cases H
  ·rw [if_neg c4] at H
   cases H
 ·rw [if_neg c3] at H
  cases H
theorem b_plus.zGy (k : Nat) (A0 : Option Addr) (c0 : Nat) (l0 : List Int) (A1 : Option Addr) (c1 : Nat) (l1 : List Int) (r : List Int) (w : World) (hr0 : Kd.C (Kd.int .u32) w A0 l0.length l0) (hc0 : l0.length ≤ c0) (hr1 : Kd.C (Kd.int .u32) w A1 l1.length l1) (hc1 : l1.length ≤ c1) (hge : (l1.length : Int) < (l0.length : Int)) (h : b_plus.fg k l0 l1 = some r) :
  Calls Tryz.prog 44 #[.slice A1 l1.length c1,.slice A0 l0.length c0] w fun e w' => ∃ v0_ : Value,e = .returned (v0_) ∧ Kd.V (Kd.int .u32) 52 w' w.heap.size (fun k_ => (w.heap.size ≤ k_)) v0_ r ∧ Below w.heap.size w w' := by
 have cgeb : decide ((l1.length : Int) < (l0.length : Int)) = true := decide_eq_true hge;have HR0 := am hr0;have HC0 := am hc0;clear hr0 hc0;have HR1 := am hr1;have HC1 := am hc1;clear hr1 hc1;have HB := am (Below.refl w.heap.size w);have H : (if 0 ≤ wrap64 ((l0.length : Int) + 1) then (if (wrap64 ((l0.length : Int) + 1) : Int).toNat ≤ 70368744177664 then (b_plus.l0 k l1 (List.replicate 0 0) 0 l0 (l0.length : Int) 0) else (none)) else (none)) = some r := h;clear h;by_cases c3 : 0 ≤ wrap64 ((l0.length : Int) + 1)
 ·rw [if_pos c3] at H;have c3b0 := eq_true c3;have c3b1 : decide (0 ≤ wrap64 ((l0.length : Int) + 1)) = true := decide_eq_true c3;by_cases c4 : (wrap64 ((l0.length : Int) + 1) : Int).toNat ≤ 70368744177664
  ·rw [if_pos c4] at H;have c4b0 := eq_true c4;have c4b1 : decide ((wrap64 ((l0.length : Int) + 1) : Int).toNat ≤ 70368744177664) = true := decide_eq_true c4;obtain ⟨y107,hy107⟩ : ∃ y_ : List Int,y_ = (List.replicate 0 0) := ⟨_,rfl⟩;(replace H : (b_plus.l0 k l1 y107 0 l0 (l0.length : Int) 0) = some r := by first | (rw [hy107];with_reducible exact H) | (have H2_ := (Option.bind_some _ _).symm.trans H;rw [hy107];with_reducible exact H2_) | (have H2_ := (Option.bind_some _ _).symm.trans H;with_reducible exact H2_) | with_reducible exact H | (rw [hy107];exact H) | exact H);have Ny107 := am hy107;clear hy107;have H' := am H;clear H;go_enter Tryz.func44,Tryz.ntmps44;go_wp2_with (first | ((with_reducible refine zQE (N := 19) rfl ?_);refine zKw (Kd.int .u32) _ 52 rfl (N := 19) rfl 50 _ _ rfl 0 (wrap64 ((l0.length : Int) + 1)) rfl rfl Tryz.underlying50 (.int .u32 0) 4 zXV rfl (by decide) (by omega) 0 (ok := fun _ => True) (okp := fun _ => True) rfl (fun _ hk => hk) trivial (by omega) pD (Nat.le_trans (Nat.mul_le_mul_right _ (pD : (wrap64 ((l0.length : Int) + 1)).toNat ≤ 70368744177664)) (by omega)) (Below.refl _ _) (Nat.le_refl _) ?_;intro v108 w5 ho6 hb hg_ hnew_;clear hg_ hnew_;(first | rw [← Ny107.out] at ho6 | (simp only [Int.reduceToNat] at ho6;rw [← Ny107.out] at ho6));have HO109 := am (Kd.zQr (Kd.zXv (M := fun k_ => (w.heap.size ≤ k_)) ho6 (zQa pB) (fun k_ h_ => h_)) (zQa pB));replace HB := bS hb;clear hb ho6))
   go_loopg [5,6,22] k (fun kq v5 v6 v22 w' => ∃ (x5_1 : List Int) (x6_1 : Int) (x22_1 : Int),v6 = .int .u64 x6_1 ∧ v22 = .int .i64 x22_1 ∧ Aside0 (b_plus.l0 kq l1 x5_1 x6_1 l0 (l0.length : Int) x22_1 = some r) ∧ Aside0 (kq ≤ k) ∧ Aside0 (Kd.R (Kd.int .u32) 52 w' w.heap.size (fun k_ => (w.heap.size ≤ k_)) v5 x5_1) ∧ Aside0 (Below w.heap.size w w'))
   case atStart => exact ⟨(y107),(0),(0),pS,pS,H',⟨Nat.le_refl _⟩,⟨by (with_reducible repeat (first | apply Kd.zQo | apply Kd.zQj | apply Kd.zQs));exact Kd.zQu HO109.out (fun _ hk => hk.1)⟩,⟨pB⟩⟩
   case round =>
    clear H';(try clear c1);(try clear p2);(try clear c3);(try clear c3b0);(try clear c3b1);(try clear c4);(try clear c4b0);(try clear c4b1);(try clear p6);obtain ⟨x5_1,x6_1,x22_1,rfl,rfl,HA,HK1,HO_5,HB⟩ := hrel
    cases gk with
    | zero => exact absurd HA.out (by simp [b_plus.l0])
    | succ k1 =>
     have H := HA.out;clear HA;simp only [b_plus.l0] at H;by_cases c7 : x22_1 < (l0.length : Int)
     ·rw [if_pos c7] at H;have c7b0 : decide (x22_1 < (l0.length : Int)) = true := decide_eq_true c7;clear c7;by_cases c8 : 0 ≤ x22_1
      ·rw [if_pos c8] at H;have c8b0 : decide (0 ≤ x22_1) = true := decide_eq_true c8;clear c8;by_cases c9 : x22_1 < (l0.length : Int)
       ·rw [if_pos c9] at H;have c9b0 : decide (x22_1 < (l0.length : Int)) = true := decide_eq_true c9;clear c9;by_cases c10 : x22_1 < (l1.length : Int)
        ·rw [if_pos c10] at H;have c10b0 : decide (x22_1 < (l1.length : Int)) = true := decide_eq_true c10;clear c10;by_cases c11 : x5_1.length < 35184372088832
         ·rw [if_pos c11] at H;have LMc11 := am c11;clear c11;obtain ⟨y112,hy112⟩ : ∃ y_ : List Int,y_ = (x5_1 ++ [(IntKind.u64.wrap ((IntKind.u64.wrap (x6_1 + (IntKind.u64.wrap (rd l0 x22_1)))) + (IntKind.u64.wrap (rd l1 x22_1)))) % 4294967296]) := ⟨_,rfl⟩;(replace H : (b_plus.l0 k1 l1 y112 ((IntKind.u64.wrap ((IntKind.u64.wrap (x6_1 + (IntKind.u64.wrap (rd l0 x22_1)))) + (IntKind.u64.wrap (rd l1 x22_1)))) / 4294967296) l0 (l0.length : Int) (wrap64 (x22_1 + 1))) = some r := by first | (rw [hy112];with_reducible exact H) | (have H2_ := (Option.bind_some _ _).symm.trans H;rw [hy112];with_reducible exact H2_) | (have H2_ := (Option.bind_some _ _).symm.trans H;with_reducible exact H2_) | with_reducible exact H | (rw [hy112];exact H) | exact H);have Ny112 := am hy112;clear hy112;have H' := am H;clear H;have p110 : 0 ≤ (x22_1 : Int) := pD;have q110 : x22_1 < (l0.length : Int) := pD;obtain ⟨ad110,e110,hx110_0⟩ := Kd.zXg HR0.out x22_1 p110 q110
          cases e110
          replace hx110_0 := (HB.out.cell (World.block_lt_of_cell? w _ hx110_0)).trans hx110_0;replace p110 := eq_true p110;replace q110 := eq_true q110;have p111 : 0 ≤ (x22_1 : Int) := pD;have q111 : x22_1 < (l1.length : Int) := pD;obtain ⟨ad111,e111,hx111_0⟩ := Kd.zXg HR1.out x22_1 p111 q111
          cases e111
          replace hx111_0 := (HB.out.cell (World.block_lt_of_cell? w _ hx111_0)).trans hx111_0;replace p111 := eq_true p111;replace q111 := eq_true q111;go_wp2_with (first | ((with_reducible refine zQz (b := .append) (xs := #[.tmp 42,.tmp 45]) rfl ?_);at_builtin;refine Kd.zQW (Kd.int .u32) (w0 := w) w.heap.size rfl (.tmp 42) (.tmp 45) 50 52 (.int .u32 0) 4 rfl Tryz.underlying50 zXV rfl (by decide) (by omega) u5 x5_1 ((IntKind.u64.wrap ((IntKind.u64.wrap (x6_1 + (IntKind.u64.wrap (rd l0 x22_1)))) + (IntKind.u64.wrap (rd l1 x22_1)))) % 4294967296) [.int .u32 ((IntKind.u64.wrap ((IntKind.u64.wrap (x6_1 + (IntKind.u64.wrap (rd l0 x22_1)))) + (IntKind.u64.wrap (rd l1 x22_1)))) % 4294967296)] (fun k_ => (w.heap.size ≤ k_)) (fun _ => False) rfl rfl ?aP (fun _ hk => hk.elim) ?aF ?aO ?aB ?aS ?aL ?_;(case aP => exact rfl);(case aB => exact pB);(case aF => exact (fun k_ hk => (Nat.le_trans (zQa pB) hk)));(case aO => exact (pR HO_5.out));(case aS => exact (zQa pB));(case aL => have := LMc11.out;omega);intro v113 w12 ho hb hg hat;rw [← Ny112.out] at ho;replace HB := am (hb);have HO114 := am (ho);clear HO_5;clear ho hb hg hat))
          go_roundg k1
          case measure => have := HK1.out;omega
          case rel => exact ⟨(y112),((IntKind.u64.wrap ((IntKind.u64.wrap (x6_1 + (IntKind.u64.wrap (rd l0 x22_1)))) + (IntKind.u64.wrap (rd l1 x22_1)))) / 4294967296),(wrap64 (x22_1 + 1)),pS,pS,H',⟨by have := HK1.out;omega⟩,⟨by (with_reducible repeat (first | apply Kd.zQo | apply Kd.zQj | apply Kd.zQs));exact HO114.out⟩,⟨pB⟩⟩
         ·rw [if_neg c11] at H
          cases H
        ·rw [if_neg c10] at H;have c10b0 : decide (x22_1 < (l1.length : Int)) = false := decide_eq_false c10;clear c10;by_cases c13 : x5_1.length < 35184372088832
         ·rw [if_pos c13] at H;have LMc13 := am c13;clear c13;obtain ⟨y115,hy115⟩ : ∃ y_ : List Int,y_ = (x5_1 ++ [(IntKind.u64.wrap (x6_1 + (IntKind.u64.wrap (rd l0 x22_1)))) % 4294967296]) := ⟨_,rfl⟩;(replace H : (b_plus.l0 k1 l1 y115 ((IntKind.u64.wrap (x6_1 + (IntKind.u64.wrap (rd l0 x22_1)))) / 4294967296) l0 (l0.length : Int) (wrap64 (x22_1 + 1))) = some r := by first | (rw [hy115];with_reducible exact H) | (have H2_ := (Option.bind_some _ _).symm.trans H;rw [hy115];with_reducible exact H2_) | (have H2_ := (Option.bind_some _ _).symm.trans H;with_reducible exact H2_) | with_reducible exact H | (rw [hy115];exact H) | exact H);have Ny115 := am hy115;clear hy115;have H' := am H;clear H;have p110 : 0 ≤ (x22_1 : Int) := pD;have q110 : x22_1 < (l0.length : Int) := pD;obtain ⟨ad110,e110,hx110_0⟩ := Kd.zXg HR0.out x22_1 p110 q110
          cases e110
          replace hx110_0 := (HB.out.cell (World.block_lt_of_cell? w _ hx110_0)).trans hx110_0;replace p110 := eq_true p110;replace q110 := eq_true q110;go_wp2_with (first | ((with_reducible refine zQz (b := .append) (xs := #[.tmp 42,.tmp 45]) rfl ?_);at_builtin;refine Kd.zQW (Kd.int .u32) (w0 := w) w.heap.size rfl (.tmp 42) (.tmp 45) 50 52 (.int .u32 0) 4 rfl Tryz.underlying50 zXV rfl (by decide) (by omega) u5 x5_1 ((IntKind.u64.wrap (x6_1 + (IntKind.u64.wrap (rd l0 x22_1)))) % 4294967296) [.int .u32 ((IntKind.u64.wrap (x6_1 + (IntKind.u64.wrap (rd l0 x22_1)))) % 4294967296)] (fun k_ => (w.heap.size ≤ k_)) (fun _ => False) rfl rfl ?aP (fun _ hk => hk.elim) ?aF ?aO ?aB ?aS ?aL ?_;(case aP => exact rfl);(case aB => exact pB);(case aF => exact (fun k_ hk => (Nat.le_trans (zQa pB) hk)));(case aO => exact (pR HO_5.out));(case aS => exact (zQa pB));(case aL => have := LMc13.out;omega);intro v116 w14 ho hb hg hat;rw [← Ny115.out] at ho;replace HB := am (hb);have HO117 := am (ho);clear HO_5;clear ho hb hg hat))
          go_roundg k1
          case measure => have := HK1.out;omega
          case rel => exact ⟨(y115),((IntKind.u64.wrap (x6_1 + (IntKind.u64.wrap (rd l0 x22_1)))) / 4294967296),(wrap64 (x22_1 + 1)),pS,pS,H',⟨by have := HK1.out;omega⟩,⟨by (with_reducible repeat (first | apply Kd.zQo | apply Kd.zQj | apply Kd.zQs));exact HO117.out⟩,⟨pB⟩⟩
         ·rw [if_neg c13] at H
          cases H
       ·rw [if_neg c9] at H
        cases H
      ·rw [if_neg c8] at H
       cases H
     ·rw [if_neg c7] at H;have c7b0 : decide (x22_1 < (l0.length : Int)) = false := decide_eq_false c7;clear c7;by_cases c15 : x5_1.length < 35184372088832
      ·rw [if_pos c15] at H;have LMc15 := am c15;clear c15;obtain ⟨y118,hy118⟩ : ∃ y_ : List Int,y_ = (x5_1 ++ [(x6_1) % 4294967296]) := ⟨_,rfl⟩;(replace H : ((b_trim.f k1 y118).bind fun t121 => (some t121)) = some r := by first | (rw [hy118];with_reducible exact H) | (have H2_ := (Option.bind_some _ _).symm.trans H;rw [hy118];with_reducible exact H2_) | (have H2_ := (Option.bind_some _ _).symm.trans H;with_reducible exact H2_) | with_reducible exact H | (rw [hy118];exact H) | exact H);have Ny118 := am hy118;clear hy118;obtain ⟨t121,A16,H⟩ := oB H;(try dsimp only at H);obtain rfl := Option.some.inj H;go_wp2_with (first | ((with_reducible refine zQz (b := .append) (xs := #[.tmp 50,.tmp 53]) rfl ?_);at_builtin;refine Kd.zQW (Kd.int .u32) (w0 := w) w.heap.size rfl (.tmp 50) (.tmp 53) 50 52 (.int .u32 0) 4 rfl Tryz.underlying50 zXV rfl (by decide) (by omega) u5 x5_1 ((x6_1) % 4294967296) [.int .u32 ((x6_1) % 4294967296)] (fun k_ => (w.heap.size ≤ k_)) (fun _ => False) rfl rfl ?aP (fun _ hk => hk.elim) ?aF ?aO ?aB ?aS ?aL ?_;(case aP => exact rfl);(case aB => exact pB);(case aF => exact (fun k_ hk => (Nat.le_trans (zQa pB) hk)));(case aO => exact (pR HO_5.out));(case aS => exact (zQa pB));(case aL => have := LMc15.out;omega);intro v119 w17 ho hb hg hat;rw [← Ny118.out] at ho;replace HB := am (hb);have HO120 := am (ho);clear HO_5;clear ho hb hg hat;obtain ⟨Ao18,co18,eo18⟩ := Kd.zQv HO120.out;subst eo18) | ((with_reducible refine zQb (f := 57) rfl ?_);refine zQi (some 55) rfl rfl Tryz.func57 (by kernel_rfl) rfl #[.slice Ao18 y118.length co18] rfl pM ?_;(with_reducible refine (b_trim.calls k1 (fun k_ => some k_ = (.slice Ao18 y118.length co18 : Value).ownBlock) _ _ y118 t121 _ ?side1 A16.out).mono ?_);(case side1 => exact Kd.R_V (Kd.zXt rfl (HO120.out)));rintro e w19 ⟨v122,rfl,ho0,hb⟩;refine ⟨_,rfl,?_⟩;have HO123 := am (Kd.zQQ (Kd.zQh (ok' := fun k_ => (w.heap.size ≤ k_)) ho0 (fun k_ hk_ => Or.elim hk_ (fun hs_ => ((HO120.out).1 k_ hs_.symm)) (fun hn_ => (Nat.le_trans (zQa pB) hn_)))) (zQa pB));replace HO120 := am (Kd.zQw (pR HO120.out) hb);replace HB := bS hb;(try clear hb);(try clear ho0)))
       go_ret
       exact ⟨_,pE,by (with_reducible repeat (first | apply Kd.zQp | apply Kd.zQm | apply Kd.zQq));exact HO123.out,pB⟩
      ·rw [if_neg c15] at H
       cases H
  ·rw [if_neg c4] at H
   cases H
 ·rw [if_neg c3] at H
  cases H
def b_plus.f (k : Nat) (l0 : List Int) (l1 : List Int) : Option (List Int) := if (l0.length : Int) < (l1.length : Int) then b_plus.fg k l1 l0 else b_plus.fg k l0 l1
theorem b_plus.mono : ∀ a0 a1 k,LeO (b_plus.f k a0 a1) (b_plus.f (k + 1) a0 a1) := by
 intro a0 a1 k;unfold b_plus.f;by_cases h : (a0.length : Int) < (a1.length : Int)
 ·rw [if_pos h,if_pos h];exact b_plus.zGO _ _ _
 ·rw [if_neg h,if_neg h];exact b_plus.zGO _ _ _
theorem b_plus.calls (k : Nat) (A0 : Option Addr) (c0 : Nat) (l0 : List Int) (A1 : Option Addr) (c1 : Nat) (l1 : List Int) (r : List Int) (w : World) (hr0 : Kd.C (Kd.int .u32) w A0 l0.length l0) (hc0 : l0.length ≤ c0) (hr1 : Kd.C (Kd.int .u32) w A1 l1.length l1) (hc1 : l1.length ≤ c1) (h : b_plus.f k l0 l1 = some r) :
  Calls Tryz.prog 44 #[.slice A0 l0.length c0,.slice A1 l1.length c1] w fun e w' => ∃ v0_ : Value,e = .returned (v0_) ∧ Kd.V (Kd.int .u32) 52 w' w.heap.size (fun k_ => (w.heap.size ≤ k_)) v0_ r ∧ Below w.heap.size w w' := by
 unfold b_plus.f at h;by_cases hc : (l0.length : Int) < (l1.length : Int)
 ·rw [if_pos hc] at h;exact b_plus.zGy k A1 c1 l1 A0 c0 l0 r w hr1 hc1 hr0 hc0 hc h
 ·rw [if_neg hc] at h;exact b_plus.zGz k A0 c0 l0 A1 c1 l1 r w hr0 hc0 hr1 hc1 hc h
def dec_digits.l0 : Nat → ByteArray → Int → Int → Option (Int)
 | 0,_,_,_ => none
 | k + 1,x0,x5,x6 => if x6 < x5 then (if 0 ≤ x6 then (if x6 < (x0.size : Int) then (if (bt x0 x6) < 48 then (some x6) else (if (bt x0 x6) > 57 then (some x6) else (dec_digits.l0 k x0 x5 (wrap64 (x6 + 1))))) else (none)) else (none)) else (some (x0.size : Int))
def dec_digits.f (k : Nat) (a0 : ByteArray) : Option (Int) := dec_digits.l0 k a0 (a0.size : Int) 0
theorem dec_digits.mono_l : ∀ k,(∀ y0 y1 y2,LeO (dec_digits.l0 k y0 y1 y2) (dec_digits.l0 (k + 1) y0 y1 y2))
 | 0 => fun _ _ _ r h => by simp [dec_digits.l0] at h
 | k + 1 => by
  have ih0 := dec_digits.mono_l k
  ·intro y0 y1 y2;unfold dec_digits.l0;repeat' first
   | (with_reducible exact ih0 _ _ _)
   | (with_reducible exact LeO.refl _)
   | (with_reducible exact LeO.none _)
   | (with_reducible refine LeO.ite ?_ ?_)
   | (with_reducible refine LeO.bind ?_ (fun _ => ?_))
   | exact ih0 _ _ _
   | exact LeO.none _
   | refine LeO.ite ?_ ?_
   | refine LeO.bind ?_ (fun _ => ?_)
theorem dec_digits.mono : ∀ a0 k,LeO (dec_digits.f k a0) (dec_digits.f (k + 1) a0) := by
 intro a0 k;have ih0 := dec_digits.mono_l k;unfold dec_digits.f
 repeat' first
   | (with_reducible exact ih0 _ _ _)
   | (with_reducible exact LeO.refl _)
   | (with_reducible exact LeO.none _)
   | (with_reducible refine LeO.ite ?_ ?_)
   | (with_reducible refine LeO.bind ?_ (fun _ => ?_))
   | exact ih0 _ _ _
   | exact LeO.none _
   | refine LeO.ite ?_ ?_
   | refine LeO.bind ?_ (fun _ => ?_)
set_option maxHeartbeats 8000000 in
set_option maxRecDepth 100000 in
theorem dec_digits.calls (k : Nat) (a0 : ByteArray) (r : Int) (w : World) (h : dec_digits.f k a0 = some r) :
  Calls Tryz.prog 22 #[.string a0] w fun e w' => e = .returned (.int .i64 r) ∧ Drawn0 w w' := by
 have H : (dec_digits.l0 k a0 (a0.size : Int) 0) = some r := h;clear h;have H' := am H;clear H;go_enter Tryz.func22,Tryz.ntmps22;go_wp2
 go_loopg [6] k (fun kq v6 w' => ∃ (x6_1 : Int),v6 = .int .i64 x6_1 ∧ Aside0 (dec_digits.l0 kq a0 (a0.size : Int) x6_1 = some r) ∧ Aside0 (kq ≤ k) ∧ Drawn0 w w')
 case atStart => exact ⟨(0),pS,H',⟨Nat.le_refl _⟩,pQ0⟩
 case round =>
  clear H';obtain ⟨x6_1,rfl,HA,HK1,⟨m1,rfl⟩⟩ := hrel
  cases gk with
  | zero => exact absurd HA.out (by simp [dec_digits.l0])
  | succ k1 =>
   have H := HA.out;clear HA;simp only [dec_digits.l0] at H;by_cases c2 : x6_1 < (a0.size : Int)
   ·rw [if_pos c2] at H;have c2b0 : decide (x6_1 < (a0.size : Int)) = true := decide_eq_true c2;clear c2;by_cases c3 : 0 ≤ x6_1
    ·rw [if_pos c3] at H;have c3b0 : decide (0 ≤ x6_1) = true := decide_eq_true c3;clear c3;by_cases c4 : x6_1 < (a0.size : Int)
     ·rw [if_pos c4] at H;have c4b0 : decide (x6_1 < (a0.size : Int)) = true := decide_eq_true c4;clear c4;by_cases c6 : (bt a0 x6_1) < 48
      ·rw [if_pos c6] at H;have c6b0 : decide ((bt a0 x6_1) < 48) = true := decide_eq_true c6;clear c6;obtain rfl := Option.some.inj H;have p5 : 0 ≤ (x6_1 : Int) := pD;have q5 : x6_1 < (a0.size : Int) := pD;have hx5 := bt_at a0 x6_1;replace p5 := eq_true p5;replace q5 := eq_true q5;go_wp2
       go_ret
       exact ⟨pS,pQ0⟩
      ·rw [if_neg c6] at H;have c6b0 : decide ((bt a0 x6_1) < 48) = false := decide_eq_false c6;clear c6;by_cases c8 : (bt a0 x6_1) > 57
       ·rw [if_pos c8] at H;have c8b0 : decide (57 < (bt a0 x6_1)) = true := decide_eq_true c8;clear c8;obtain rfl := Option.some.inj H;have p5 : 0 ≤ (x6_1 : Int) := pD;have q5 : x6_1 < (a0.size : Int) := pD;have hx5 := bt_at a0 x6_1;replace p5 := eq_true p5;replace q5 := eq_true q5;have p7 : 0 ≤ (x6_1 : Int) := pD;have q7 : x6_1 < (a0.size : Int) := pD;have hx7 := bt_at a0 x6_1;replace p7 := eq_true p7;replace q7 := eq_true q7;go_wp2
        go_ret
        exact ⟨pS,pQ0⟩
       ·rw [if_neg c8] at H;have c8b0 : decide (57 < (bt a0 x6_1)) = false := decide_eq_false c8;clear c8;have H' := am H;clear H;have p5 : 0 ≤ (x6_1 : Int) := pD;have q5 : x6_1 < (a0.size : Int) := pD;have hx5 := bt_at a0 x6_1;replace p5 := eq_true p5;replace q5 := eq_true q5;have p7 : 0 ≤ (x6_1 : Int) := pD;have q7 : x6_1 < (a0.size : Int) := pD;have hx7 := bt_at a0 x6_1;replace p7 := eq_true p7;replace q7 := eq_true q7;go_wp2
        go_roundg k1
        case measure => have := HK1.out;omega
        case rel => exact ⟨(wrap64 (x6_1 + 1)),pS,H',⟨by have := HK1.out;omega⟩,pQ0⟩
     ·rw [if_neg c4] at H
      cases H
    ·rw [if_neg c3] at H
     cases H
   ·rw [if_neg c2] at H;have c2b0 : decide (x6_1 < (a0.size : Int)) = false := decide_eq_false c2;clear c2;obtain rfl := Option.some.inj H;go_wp2
    go_ret
    exact ⟨pS,pQ0⟩
def stringslite_HasPrefix.f (a0 : ByteArray) (a1 : ByteArray) : Option (Bool) := if (a0.size : Int) ≥ (a1.size : Int) then (if 0 ≤ (a1.size : Int) then (if (a1.size : Int) ≤ (a0.size : Int) then (some ((a0.extract 0 ((a1.size : Int) : Int).toNat).toList == a1.toList)) else (none)) else (none)) else (some false)
set_option maxHeartbeats 8000000 in
set_option maxRecDepth 100000 in
theorem stringslite_HasPrefix.calls (a0 : ByteArray) (a1 : ByteArray) (r : Bool) (w : World) (h : stringslite_HasPrefix.f a0 a1 = some r) :
  Calls Tryz.prog 56 #[.string a0,.string a1] w fun e w' => e = .returned (.bool r) ∧ Drawn0 w w' := by
 have H : (if (a0.size : Int) ≥ (a1.size : Int) then (if 0 ≤ (a1.size : Int) then (if (a1.size : Int) ≤ (a0.size : Int) then (some ((a0.extract 0 ((a1.size : Int) : Int).toNat).toList == a1.toList)) else (none)) else (none)) else (some false)) = some r := h;clear h;by_cases c3 : (a0.size : Int) ≥ (a1.size : Int)
 ·rw [if_pos c3] at H;have c3b0 : decide ((a1.size : Int) ≤ (a0.size : Int)) = true := decide_eq_true c3;have c3b1 : decide (a1.size ≤ a0.size) = true := decide_eq_true (Int.ofNat_le.mp c3);clear c3;by_cases c4 : 0 ≤ (a1.size : Int)
  ·rw [if_pos c4] at H;have c4b0 := eq_true c4;have c4b1 : decide (0 ≤ (a1.size : Int)) = true := decide_eq_true c4;clear c4;by_cases c5 : (a1.size : Int) ≤ (a0.size : Int)
   ·rw [if_pos c5] at H;have c5b0 := eq_true c5;have c5b1 : decide ((a1.size : Int) ≤ (a0.size : Int)) = true := decide_eq_true c5;clear c5;obtain ⟨ji6,hji6⟩ : ∃ j_ : ByteArray,(a0.extract 0 ((a1.size : Int) : Int).toNat) = j_ := ⟨_,rfl⟩;(replace H : (some ((ji6).toList == a1.toList)) = some r := by first | (rw [hji6] at H;exact H) | (simp only [hji6] at H ⊢;exact H) | exact H);obtain rfl := Option.some.inj H;go_enter Tryz.func56,Tryz.ntmps56;go_wp2
    go_ret
    exact ⟨by first | rfl | (simp;done) | (simp only [← hji6] <;> (first | rfl | simp)) | (simp [*];done),pQ0⟩
   ·rw [if_neg c5] at H
    cases H
  ·rw [if_neg c4] at H
   cases H
 ·rw [if_neg c3] at H;have c3b0 : decide ((a1.size : Int) ≤ (a0.size : Int)) = false := decide_eq_false c3;have c3b1 : decide (a1.size ≤ a0.size) = false := decide_eq_false (fun h => c3 (Int.ofNat_le.mpr h));clear c3;obtain rfl := Option.some.inj H;go_enter Tryz.func56,Tryz.ntmps56;go_wp2
  go_ret
  exact ⟨pS,pQ0⟩
def strings_HasPrefix.f (a0 : ByteArray) (a1 : ByteArray) : Option (Bool) := (stringslite_HasPrefix.f a0 a1).bind fun t124 => (some t124)
set_option maxHeartbeats 8000000 in
set_option maxRecDepth 100000 in
theorem strings_HasPrefix.calls (a0 : ByteArray) (a1 : ByteArray) (r : Bool) (w : World) (h : strings_HasPrefix.f a0 a1 = some r) :
  Calls Tryz.prog 23 #[.string a0,.string a1] w fun e w' => e = .returned (.bool r) ∧ Drawn0 w w' := by
 have H : ((stringslite_HasPrefix.f a0 a1).bind fun t124 => (some t124)) = some r := h;clear h;obtain ⟨t124,A3,H⟩ := oB H;(try dsimp only at H);obtain rfl := Option.some.inj H;go_enter Tryz.func23,Tryz.ntmps23;go_wp2_with (first | ((with_reducible refine zQb (f := 56) rfl ?_);refine zQi (some 7) rfl rfl Tryz.func56 (by kernel_rfl) rfl #[.string a0,.string a1] rfl pM ?_;(with_reducible refine (stringslite_HasPrefix.calls a0 a1 t124 _ A3.out).mono ?_);rintro e w' ⟨rfl,⟨nd,rfl⟩⟩;refine ⟨_,rfl,?_⟩))
 go_ret
 exact ⟨pS,pQ0⟩
end Go.Proofs.YtflcanpajgpghaaGreatDoor.Pr
end
section
namespace Go.Proofs.YtflcanpajgpghaaGreatDoor.Pr
open Go.RowKit Go.Proofs.YtflcanpajgpghaaGreatDoorW.PrintWords Go.Proofs.YtflcanpajgpghaaGreatDoorW.PrintLast Go.Proofs.YtflcanpajgpghaaGreatDoorW.PrintMore
attribute [local go_sem] zXe zXc zXn zXm zQV zQU zXd zXb
mutual
def dec_cut.j0 : Nat → ByteArray → ByteArray → Int → Option (ByteArray × Int × Bool)
 | 0,_,_,_ => none
 | k + 1,x6,x128000,x128001 => if x6.toList = ([] : List UInt8) then (some (x128000,x128001,true)) else (if 0 < (x6.size : Int) then (if (bt x6 0) = 101 then (dec_cut.j1 k x6 false x128000 x128001) else (dec_cut.j1 k x6 ((bt x6 0) != 69) x128000 x128001)) else (none))
def dec_cut.j1 : Nat → ByteArray → Bool → ByteArray → Int → Option (ByteArray × Int × Bool)
 | 0,_,_,_,_ => none
 | k + 1,x6,x56,x128000,x128001 => if x56 = true then (some (x128000,x128001,false)) else (if 1 ≤ (x6.size : Int) then (if (x6.extract 1 x6.size).toList = ([] : List UInt8) then (dec_cut.j2 k (x6.extract 1 x6.size) 1 false x128000 x128001) else (if 0 < ((x6.extract 1 x6.size).size : Int) then (if (bt (x6.extract 1 x6.size) 0) = 43 then (dec_cut.j2 k (x6.extract 1 x6.size) 1 true x128000 x128001) else (dec_cut.j2 k (x6.extract 1 x6.size) 1 ((bt (x6.extract 1 x6.size) 0) == 45) x128000 x128001)) else (none))) else (none))
def dec_cut.j2 : Nat → ByteArray → Int → Bool → ByteArray → Int → Option (ByteArray × Int × Bool)
 | 0,_,_,_,_,_ => none
 | k + 1,x6,x8,x71,x128000,x128001 => if x71 = true then (if 0 < (x6.size : Int) then (if (bt x6 0) = 45 then (if 1 ≤ (x6.size : Int) then (dec_cut.j3 k (x6.extract 1 x6.size) (-1) x128000 x128001) else (none)) else (if 1 ≤ (x6.size : Int) then (dec_cut.j3 k (x6.extract 1 x6.size) x8 x128000 x128001) else (none))) else (none)) else (dec_cut.j3 k x6 x8 x128000 x128001)
def dec_cut.j3 : Nat → ByteArray → Int → ByteArray → Int → Option (ByteArray × Int × Bool)
 | 0,_,_,_,_ => none
 | k + 1,x6,x8,x128000,x128001 => if x6.toList = ([] : List UInt8) then (dec_cut.j4 k x6 x8 true x128000 x128001) else ((dec_digits.f k x6).bind fun t130 => (dec_cut.j4 k x6 x8 (t130 != (x6.size : Int)) x128000 x128001))
def dec_cut.j4 : Nat → ByteArray → Int → Bool → ByteArray → Int → Option (ByteArray × Int × Bool)
 | 0,_,_,_,_,_ => none
 | k + 1,x6,x8,x85,x128000,x128001 => if x85 = true then (some (x128000,x128001,false)) else (dec_cut.l0 k x6 x8 0 (x6.size : Int) 0 x128000 x128001)
def dec_cut.l0 : Nat → ByteArray → Int → Int → Int → Int → ByteArray → Int → Option (ByteArray × Int × Bool)
 | 0,_,_,_,_,_,_,_ => none
 | k + 1,x6,x8,x9,x88,x89,x128000,x128001 => if x89 < x88 then (if 0 ≤ x89 then (if x89 < (x6.size : Int) then (dec_cut.l0 k x6 x8 (mn (wrap64 ((wrap64 (10 * x9)) + (((bt x6 x89) - 48) % 256))) 9999) x88 (wrap64 (x89 + 1)) x128000 x128001) else (none)) else (none)) else (some (x128000,wrap64 (x128001 + (wrap64 (x8 * x9))),true))
end
def dec_cut.f (k : Nat) (a0 : ByteArray) : Option (ByteArray × Int × Bool) := (dec_digits.f k a0).bind fun t126 => (if 0 ≤ t126 then (if t126 ≤ (a0.size : Int) then (if t126 = 0 then (some (a0.extract 0 (t126 : Int).toNat,0,false)) else ((strings_HasPrefix.f (a0.extract (t126 : Int).toNat a0.size) (⟨#[46]⟩ : ByteArray)).bind fun t128 => (if t128 = true then (if 1 ≤ ((a0.extract (t126 : Int).toNat a0.size).size : Int) then ((dec_digits.f k ((a0.extract (t126 : Int).toNat a0.size).extract 1 (a0.extract (t126 : Int).toNat a0.size).size)).bind fun t129 => (if t129 = 0 then (some (a0.extract 0 (t126 : Int).toNat,0,false)) else (if 1 ≤ (wrap64 (1 + t129)) then (if (wrap64 (1 + t129)) ≤ ((a0.extract (t126 : Int).toNat a0.size).size : Int) then (if (a0.extract 0 (t126 : Int).toNat).size + ((a0.extract (t126 : Int).toNat a0.size).extract 1 ((wrap64 (1 + t129)) : Int).toNat).size ≤ 9223372036854775807 then (if 0 ≤ (wrap64 (1 + t129)) then (dec_cut.j0 k ((a0.extract (t126 : Int).toNat a0.size).extract ((wrap64 (1 + t129)) : Int).toNat (a0.extract (t126 : Int).toNat a0.size).size) ((a0.extract 0 (t126 : Int).toNat) ++ ((a0.extract (t126 : Int).toNat a0.size).extract 1 ((wrap64 (1 + t129)) : Int).toNat)) (wrap64 (-t129))) else (none)) else (none)) else (none)) else (none)))) else (none)) else (dec_cut.j0 k (a0.extract (t126 : Int).toNat a0.size) (a0.extract 0 (t126 : Int).toNat) 0)))) else (none)) else (none))
theorem dec_cut.mono_l : ∀ k,(∀ y0 y1 y2,LeO (dec_cut.j0 k y0 y1 y2) (dec_cut.j0 (k + 1) y0 y1 y2)) ∧ (∀ y0 y1 y2 y3,LeO (dec_cut.j1 k y0 y1 y2 y3) (dec_cut.j1 (k + 1) y0 y1 y2 y3)) ∧ (∀ y0 y1 y2 y3 y4,LeO (dec_cut.j2 k y0 y1 y2 y3 y4) (dec_cut.j2 (k + 1) y0 y1 y2 y3 y4)) ∧ (∀ y0 y1 y2 y3,LeO (dec_cut.j3 k y0 y1 y2 y3) (dec_cut.j3 (k + 1) y0 y1 y2 y3)) ∧ (∀ y0 y1 y2 y3 y4,LeO (dec_cut.j4 k y0 y1 y2 y3 y4) (dec_cut.j4 (k + 1) y0 y1 y2 y3 y4)) ∧ (∀ y0 y1 y2 y3 y4 y5 y6,LeO (dec_cut.l0 k y0 y1 y2 y3 y4 y5 y6) (dec_cut.l0 (k + 1) y0 y1 y2 y3 y4 y5 y6))
 | 0 => ⟨fun _ _ _ r h => by simp [dec_cut.j0] at h,fun _ _ _ _ r h => by simp [dec_cut.j1] at h,fun _ _ _ _ _ r h => by simp [dec_cut.j2] at h,fun _ _ _ _ r h => by simp [dec_cut.j3] at h,fun _ _ _ _ _ r h => by simp [dec_cut.j4] at h,fun _ _ _ _ _ _ _ r h => by simp [dec_cut.l0] at h⟩
 | k + 1 => by
  obtain ⟨ih0,ih1,ih2,ih3,ih4,ih5⟩ := dec_cut.mono_l k;refine ⟨?_,?_,?_,?_,?_,?_⟩
  all_goals intros
  all_goals first | unfold dec_cut.j0 | unfold dec_cut.j1 | unfold dec_cut.j2 | unfold dec_cut.j3 | unfold dec_cut.j4 | unfold dec_cut.l0
  all_goals repeat' first
   | (with_reducible exact ih0 _ _ _)
   | (with_reducible exact ih1 _ _ _ _)
   | (with_reducible exact ih2 _ _ _ _ _)
   | (with_reducible exact ih3 _ _ _ _)
   | (with_reducible exact ih4 _ _ _ _ _)
   | (with_reducible exact ih5 _ _ _ _ _ _ _)
   | (with_reducible exact dec_digits.mono _ _)
   | (with_reducible exact LeO.refl _)
   | (with_reducible exact LeO.none _)
   | (with_reducible refine LeO.ite ?_ ?_)
   | (with_reducible refine LeO.bind ?_ (fun _ => ?_))
   | exact ih0 _ _ _
   | exact ih1 _ _ _ _
   | exact ih2 _ _ _ _ _
   | exact ih3 _ _ _ _
   | exact ih4 _ _ _ _ _
   | exact ih5 _ _ _ _ _ _ _
   | exact dec_digits.mono _ _
   | exact LeO.none _
   | refine LeO.ite ?_ ?_
   | refine LeO.bind ?_ (fun _ => ?_)
theorem dec_cut.mono : ∀ a0 k,LeO (dec_cut.f k a0) (dec_cut.f (k + 1) a0) := by
 intro a0 k;obtain ⟨ih0,ih1,ih2,ih3,ih4,ih5⟩ := dec_cut.mono_l k;unfold dec_cut.f
 repeat' first
   | (with_reducible exact ih0 _ _ _)
   | (with_reducible exact ih1 _ _ _ _)
   | (with_reducible exact ih2 _ _ _ _ _)
   | (with_reducible exact ih3 _ _ _ _)
   | (with_reducible exact ih4 _ _ _ _ _)
   | (with_reducible exact ih5 _ _ _ _ _ _ _)
   | (with_reducible exact dec_digits.mono _ _)
   | (with_reducible exact LeO.refl _)
   | (with_reducible exact LeO.none _)
   | (with_reducible refine LeO.ite ?_ ?_)
   | (with_reducible refine LeO.bind ?_ (fun _ => ?_))
   | exact ih0 _ _ _
   | exact ih1 _ _ _ _
   | exact ih2 _ _ _ _ _
   | exact ih3 _ _ _ _
   | exact ih4 _ _ _ _ _
   | exact ih5 _ _ _ _ _ _ _
   | exact dec_digits.mono _ _
   | exact LeO.none _
   | refine LeO.ite ?_ ?_
   | refine LeO.bind ?_ (fun _ => ?_)
def dec_cut.T2 : Bool × List (List Nat × List Nat) := (true,[([],[]),([],[]),([0,1],[0,1]),([2],[2]),([],[]),([],[]),([4,5],[4,5]),([],[]),([7,3,0,1,2,3,7],[3,7]),([6,8,0,1,2,3,4,5,6,7,8],[6])])
def dec_cut.B2 : List Nat := [0,0,3,7,0,0,48,0,143,511]
theorem dec_cut.tab2 : rtab .any (opsOf Tryz.f10 2) = dec_cut.T2 := by kernel_rfl
theorem dec_cut.bits2 : zYa dec_cut.T2.2 dec_cut.B2 = true := by kernel_rfl
def dec_cut.T9 : Bool × List (List Nat × List Nat) := (true,[([],[]),([0],[0]),([],[]),([],[]),([3],[3]),([2,4],[2,4]),([1,5],[1,5]),([],[]),([7],[7]),([],[]),([],[]),([10],[10]),([9,11],[9,11]),([0,1,2,3,4,5,6],[]),([13,6,0,1,2,3,4,5,6],[6,13]),([0,1,2,3,4,5,6,7,8,13,14],[]),([15,8,14,0,1,2,3,4,5,6,7,8,13,14],[8,15]),([12,16,0,1,2,3,4,5,6,7,8,9,10,11,12,13,14,15,16],[2,9,12])])
def dec_cut.B9 : List Nat := [0,1,0,0,8,28,63,0,128,0,0,1024,3584,127,8319,25087,57855,131071]
theorem dec_cut.tab9 : rtab .any (opsOf Tryz.f10 9) = dec_cut.T9 := by kernel_rfl
theorem dec_cut.bits9 : zYa dec_cut.T9.2 dec_cut.B9 = true := by kernel_rfl
set_option maxHeartbeats 8000000 in
set_option maxRecDepth 100000 in
theorem dec_cut.calls (k : Nat) (a0 : ByteArray) (r1 : ByteArray) (r2 : Int) (r3 : Bool) (w : World) (h : dec_cut.f k a0 = some (r1,r2,r3)) :
  Calls Tryz.prog 10 #[.string a0] w fun e w' => e = .returned (.tuple #[.agg #[.string r1,.int .i64 r2],.bool r3]) ∧ Below w.heap.size w w' := by
 have hu32 := Tryz.underlying32;have HB := am (Below.refl w.heap.size w);have H : ((dec_digits.f k a0).bind fun t126 => (if 0 ≤ t126 then (if t126 ≤ (a0.size : Int) then (if t126 = 0 then (some (a0.extract 0 (t126 : Int).toNat,0,false)) else ((strings_HasPrefix.f (a0.extract (t126 : Int).toNat a0.size) (⟨#[46]⟩ : ByteArray)).bind fun t128 => (if t128 = true then (if 1 ≤ ((a0.extract (t126 : Int).toNat a0.size).size : Int) then ((dec_digits.f k ((a0.extract (t126 : Int).toNat a0.size).extract 1 (a0.extract (t126 : Int).toNat a0.size).size)).bind fun t129 => (if t129 = 0 then (some (a0.extract 0 (t126 : Int).toNat,0,false)) else (if 1 ≤ (wrap64 (1 + t129)) then (if (wrap64 (1 + t129)) ≤ ((a0.extract (t126 : Int).toNat a0.size).size : Int) then (if (a0.extract 0 (t126 : Int).toNat).size + ((a0.extract (t126 : Int).toNat a0.size).extract 1 ((wrap64 (1 + t129)) : Int).toNat).size ≤ 9223372036854775807 then (if 0 ≤ (wrap64 (1 + t129)) then (dec_cut.j0 k ((a0.extract (t126 : Int).toNat a0.size).extract ((wrap64 (1 + t129)) : Int).toNat (a0.extract (t126 : Int).toNat a0.size).size) ((a0.extract 0 (t126 : Int).toNat) ++ ((a0.extract (t126 : Int).toNat a0.size).extract 1 ((wrap64 (1 + t129)) : Int).toNat)) (wrap64 (-t129))) else (none)) else (none)) else (none)) else (none)))) else (none)) else (dec_cut.j0 k (a0.extract (t126 : Int).toNat a0.size) (a0.extract 0 (t126 : Int).toNat) 0)))) else (none)) else (none))) = some (r1,r2,r3) := h;clear h;obtain ⟨t126,A2,H⟩ := oB H;(try dsimp only at H);by_cases c3 : 0 ≤ t126
 ·rw [if_pos c3] at H;have c3b0 := eq_true c3;have c3b1 : decide (0 ≤ t126) = true := decide_eq_true c3;clear c3;by_cases c4 : t126 ≤ (a0.size : Int)
  ·rw [if_pos c4] at H;have c4b0 := eq_true c4;have c4b1 : decide (t126 ≤ (a0.size : Int)) = true := decide_eq_true c4;clear c4;obtain ⟨ji5,hji5⟩ : ∃ j_ : ByteArray,(a0.extract 0 (t126 : Int).toNat) = j_ := ⟨_,rfl⟩;(replace H : (if t126 = 0 then (some (ji5,0,false)) else ((strings_HasPrefix.f (a0.extract (t126 : Int).toNat a0.size) (⟨#[46]⟩ : ByteArray)).bind fun t128 => (if t128 = true then (if 1 ≤ ((a0.extract (t126 : Int).toNat a0.size).size : Int) then ((dec_digits.f k ((a0.extract (t126 : Int).toNat a0.size).extract 1 (a0.extract (t126 : Int).toNat a0.size).size)).bind fun t129 => (if t129 = 0 then (some (ji5,0,false)) else (if 1 ≤ (wrap64 (1 + t129)) then (if (wrap64 (1 + t129)) ≤ ((a0.extract (t126 : Int).toNat a0.size).size : Int) then (if (ji5).size + ((a0.extract (t126 : Int).toNat a0.size).extract 1 ((wrap64 (1 + t129)) : Int).toNat).size ≤ 9223372036854775807 then (if 0 ≤ (wrap64 (1 + t129)) then (dec_cut.j0 k ((a0.extract (t126 : Int).toNat a0.size).extract ((wrap64 (1 + t129)) : Int).toNat (a0.extract (t126 : Int).toNat a0.size).size) ((ji5) ++ ((a0.extract (t126 : Int).toNat a0.size).extract 1 ((wrap64 (1 + t129)) : Int).toNat)) (wrap64 (-t129))) else (none)) else (none)) else (none)) else (none)))) else (none)) else (dec_cut.j0 k (a0.extract (t126 : Int).toNat a0.size) ji5 0)))) = some (r1,r2,r3) := by first | (rw [hji5] at H;exact H) | (simp only [hji5] at H ⊢;exact H) | exact H);(try rw [hji5] at A2);have c6b0 := eq_true (pD : 0 ≤ t126);have c7b0 := eq_true (pD : t126 ≤ (a0.size : Int));obtain ⟨ji8,hji8⟩ : ∃ j_ : ByteArray,(a0.extract (t126 : Int).toNat a0.size) = j_ := ⟨_,rfl⟩;(replace H : (if t126 = 0 then (some (ji5,0,false)) else ((strings_HasPrefix.f (ji8) (⟨#[46]⟩ : ByteArray)).bind fun t128 => (if t128 = true then (if 1 ≤ ((ji8).size : Int) then ((dec_digits.f k ((ji8).extract 1 (ji8).size)).bind fun t129 => (if t129 = 0 then (some (ji5,0,false)) else (if 1 ≤ (wrap64 (1 + t129)) then (if (wrap64 (1 + t129)) ≤ ((ji8).size : Int) then (if (ji5).size + ((ji8).extract 1 ((wrap64 (1 + t129)) : Int).toNat).size ≤ 9223372036854775807 then (if 0 ≤ (wrap64 (1 + t129)) then (dec_cut.j0 k ((ji8).extract ((wrap64 (1 + t129)) : Int).toNat (ji8).size) ((ji5) ++ ((ji8).extract 1 ((wrap64 (1 + t129)) : Int).toNat)) (wrap64 (-t129))) else (none)) else (none)) else (none)) else (none)))) else (none)) else (dec_cut.j0 k ji8 ji5 0)))) = some (r1,r2,r3) := by first | (rw [hji8] at H;exact H) | (simp only [hji8] at H ⊢;exact H) | exact H);(try rw [hji8] at A2);by_cases c9 : t126 = 0
   ·rw [if_pos c9] at H;have c9b0 : (t126 == 0) = true := beq_iff_eq.mpr c9;have c9b1 : (t126 != 0) = false := bne_eq_false_iff_eq.mpr c9;clear c9;simp only [Option.some.injEq,Prod.mk.injEq] at H;obtain ⟨rfl,rfl,rfl⟩ := H;go_enter Tryz.func10,Tryz.ntmps10;(try go_wp2_with (first | ((with_reducible refine zQE (N := 2) rfl ?_);(try (refine zYX (by rfl) ?_;dsimp only));refine zXM ?hg (N := 2) ?hd (cs := #[.string (⟨#[]⟩ : ByteArray),.int .i64 0]) (t := 32) ?hr ?_;(case hd => rfl);(case hg => rfl);(case hr => first | (go_simp;done) | (go_simp;rfl));intro gb125 hg w10 hbox hb;have BK125 := am (hbox);have GW125 := am ((by rw [hg];exact (zQa pB) : w.heap.size ≤ gb125));have GE125 := am ((by rw [hg];exact (zQa pB) : w.heap.size ≤ gb125));replace HB := bS hb;clear hb hbox hg) | ((with_reducible refine zQb (f := 22) rfl ?_);refine zQi (some 12) rfl rfl Tryz.func22 (by kernel_rfl) rfl #[.string a0] rfl pM ?_;(with_reducible refine (dec_digits.calls k a0 t126 _ A2.out).mono ?_);rintro e w' ⟨rfl,⟨nd,rfl⟩⟩;refine ⟨_,rfl,?_⟩;(try (rw [zXj w10];generalize hq_ : World.drewN w10 _ = w10;have n0_ : Aside0 (w10.heap[gb125]? = some (.cells #[.string (⟨#[]⟩ : ByteArray),.int .i64 0] 32 (0,0))) := ⟨by rw [← hq_];exact (pK BK125.out)⟩;have n1_ : Aside0 (Below w.heap.size w w10) := ⟨by rw [← hq_];exact pB⟩;clear BK125 HB hq_;have BK125 := n0_;have HB := n1_;clear n0_ n1_)))));replace BK125 := am (zQf BK125.out);replace HB := am (zQO HB.out);refine zYR (n := 10) (S := fun w' => True) (ds := []) (bm 10 0) (by kernel_rfl) rfl rfl trivial (fun hHeld => ?_);refine zXI dec_cut.tab2 dec_cut.bits2 (fun HT_ HW_ => ?_);generalize w10.drew = w11 at BK125 HB hHeld ⊢
    refine pure_ (i := 0) (N := some 13) (v := ?_) (a' := ?_) (bm 10 1) rfl rfl (zQB HT_.out (by kernel_rfl)) (fun _ _ _ h => h) (Or.inl ⟨by kernel_rfl,?_⟩) ?_ ?_
    rotate_left
    ·intro w';go_simp;with_reducible rfl
    rotate_left
    ·exact pA
    refine pure_ (i := 1) (N := some 14) (v := ?_) (a' := ?_) (bm 10 3) rfl rfl (zQB HT_.out (by kernel_rfl)) (fun _ _ _ h => h) (Or.inl ⟨by kernel_rfl,?_⟩) ?_ ?_
    rotate_left
    ·intro w';go_simp;with_reducible rfl
    rotate_left
    ·exact pA
    refine pure_ (i := 2) (N := some 15) (v := ?_) (a' := ?_) (bm 10 7) rfl rfl (zQB HT_.out (by kernel_rfl)) (fun _ _ _ h => h) (Or.inl ⟨by kernel_rfl,?_⟩) ?_ ?_
    rotate_left
    ·intro w';go_simp;with_reducible rfl
    rotate_left
    ·exact pA
    refine pure_ (i := 3) (N := some 16) (v := ?_) (a' := ?_) (bm 10 15) rfl rfl (zQB HT_.out (by kernel_rfl)) (fun _ _ _ h => h) (Or.inl ⟨by kernel_rfl,?_⟩) ?_ ?_
    rotate_left
    ·intro w';go_simp;with_reducible rfl
    rotate_left
    ·exact pA
    refine pure_ (i := 4) (N := some 17) (v := ?_) (a' := ?_) (bm 10 31) rfl rfl (zQB HT_.out (by kernel_rfl)) (fun _ _ _ h => h) (Or.inl ⟨by kernel_rfl,?_⟩) ?_ ?_
    rotate_left
    ·intro w';go_simp;with_reducible rfl
    rotate_left
    ·exact pA
    refine pure_ (i := 5) (N := some 18) (v := ?_) (a' := ?_) (bm 10 63) rfl rfl (zQB HT_.out (by kernel_rfl)) (fun _ _ _ h => h) (Or.inl ⟨by kernel_rfl,?_⟩) ?_ ?_
    rotate_left
    ·intro w';go_simp;with_reducible rfl
    rotate_left
    ·exact pA
    refine pure_ (i := 6) (N := some 19) (v := ?_) (a' := ?_) (bm 10 127) rfl rfl (zQB HT_.out (by kernel_rfl)) (fun _ _ _ h => h) (Or.inl ⟨by kernel_rfl,?_⟩) ?_ ?_
    rotate_left
    ·intro w';go_simp;with_reducible rfl
    rotate_left
    ·exact pA
    refine one_ (i := 7) (N := some 5) (bm 10 255) rfl rfl (zXa HT_.out (by kernel_rfl)) (by decide) (fun K hK => ?_);refine zBo ?hg (N := 5) ?hd (cs := #[.string (⟨#[]⟩ : ByteArray),.int .i64 0]) (t := 32) ?hr ?_;(case hd => rfl);(case hg => rfl);(case hr => first | (go_simp;done) | (go_simp;rfl));intro gb127 hg w12 hbox hb;have n0_ := am (pkb BK125.out hb);have n1_ := bS hb;have n2_ := am (hbox);have n3_ := am ((by rw [hg];exact (zQa pB) : w.heap.size ≤ gb127));have n4_ := am ((by rw [hg];exact (zQa pB) : w.heap.size ≤ gb127));have n5_ := am ((by rw [hg];exact Nat.ne_of_lt (pkl BK125.out) : gb125 ≠ gb127));have n6_ := am ((by rw [hg];exact Nat.ne_of_gt (pkl BK125.out) : gb127 ≠ gb125));clear BK125 HB;have BK125 := n0_;have HB := n1_;have BK127 := n2_;have GW127 := n3_;have GE127 := n4_;have NB125_127 := n5_;have NB127_125 := n6_;clear n0_ n1_ n2_ n3_ n4_ n5_ n6_ hb hbox hg;refine hK.out _ _ trivial (fun hHeld => ?_);clear hK K
    refine norm_ (a' := ?_) ?_ ?_
    rotate_left
    ·show Act.put _ (some 5) _ = _
     exact pA
    refine one_ (i := 8) (N := none) (bm 10 511) rfl rfl (zXa HT_.out (by kernel_rfl)) (by decide) (fun K hK => ?_);have hs13 : w12.cell? ⟨gb127,0,none⟩ = some (.string (⟨#[]⟩ : ByteArray)) := cz0 BK127.out;have hfs13 := zQJ BK127.out 0;have hns13_0 := NB125_127.out;have hms13_0 := NB127_125.out;have hs14 : w12.cell? ⟨gb127,1,none⟩ = some (.int .i64 0) := cz1 BK127.out;have hfs14 := zQJ BK127.out 1;have hns14_0 := NB125_127.out;have hms14_0 := NB127_125.out;refine skip_ (w1 := ?_) ?hw rfl ?_ ?_;(case hw => kernel_rfl);rotate_left
    ·go_simp
     rfl
    refine hK.out _ _ trivial (fun hHeld => ?_);clear hK K
    refine pure_ (i := 9) (N := some 6) (v := ?_) (a' := ?_) (bm 10 1023) rfl rfl (zQB HT_.out (by kernel_rfl)) (fun _ _ _ h => h) (Or.inl ⟨by kernel_rfl,?_⟩) ?_ ?_
    rotate_left
    ·intro w';go_simp;with_reducible rfl
    rotate_left
    ·exact pA
    refine done_ (zYx HT_.out (by kernel_rfl)) ?_
    have hnb15 := NB127_125.out;have hnc15 := NB125_127.out;have q16 := cf2 BK127.out;have q17 := cf2 BK125.out;try go_wp2
    refine bodyPost_ret (zYp rfl _ _ gb125 32 #[.string ji5,.int .i64 0] (0,0) _ rfl (by (with_reducible repeat (first | refine zQc ?_ _ | refine zQf ?_ | refine zQd ?_ _));refine zQC (cs := #[.string ji5,.int .i64 0]) ?_ 1 _ rfl;(with_reducible repeat (first | refine zQc ?_ _ | refine zQf ?_ | refine zQd ?_ _));refine zQC (cs := #[.string (⟨#[]⟩ : ByteArray),.int .i64 0]) ?_ 0 _ rfl;(with_reducible repeat (first | refine zQc ?_ _ | refine zQf ?_ | refine zQd ?_ _));refine zQN ?_ NB125_127.out _;(with_reducible repeat (first | refine zQc ?_ _ | refine zQf ?_ | refine zQd ?_ _));refine zQN ?_ NB125_127.out _;(with_reducible repeat (first | refine zQc ?_ _ | refine zQf ?_ | refine zQd ?_ _));exact BK125.out) Tryz.underlying32 rfl (by kernel_rfl)) rfl ?_
    exact ⟨by first | rfl | (simp [zQy,zQx] <;> rfl) | (simp only [← hji5,← hji8];first | rfl | (simp [zQy,zQx] <;> rfl)) | (simp [*,zQy,zQx] <;> rfl),pB⟩
   ·rw [if_neg c9] at H;have c9b0 : (t126 == 0) = false := beq_eq_false_iff_ne.mpr c9;have c9b1 : (t126 != 0) = true := bne_iff_ne.mpr c9;obtain ⟨t128,A18,H⟩ := oB H;(try dsimp only at H);have HC19 := am H;clear H;go_enter Tryz.func10,Tryz.ntmps10;(try go_wp2_with (first | ((with_reducible refine zQE (N := 2) rfl ?_);(try (refine zYX (by rfl) ?_;dsimp only));refine zXM ?hg (N := 2) ?hd (cs := #[.string (⟨#[]⟩ : ByteArray),.int .i64 0]) (t := 32) ?hr ?_;(case hd => rfl);(case hg => rfl);(case hr => first | (go_simp;done) | (go_simp;rfl));intro gb125 hg w20 hbox hb;have BK125 := am (hbox);have GW125 := am ((by rw [hg];exact (zQa pB) : w.heap.size ≤ gb125));have GE125 := am ((by rw [hg];exact (zQa pB) : w.heap.size ≤ gb125));replace HB := bS hb;clear hb hbox hg) | ((with_reducible refine zQb (f := 22) rfl ?_);refine zQi (some 12) rfl rfl Tryz.func22 (by kernel_rfl) rfl #[.string a0] rfl pM ?_;(with_reducible refine (dec_digits.calls k a0 t126 _ A2.out).mono ?_);rintro e w' ⟨rfl,⟨nd,rfl⟩⟩;refine ⟨_,rfl,?_⟩;(try (rw [zXj w20];generalize hq_ : World.drewN w20 _ = w20;have n0_ : Aside0 (w20.heap[gb125]? = some (.cells #[.string (⟨#[]⟩ : ByteArray),.int .i64 0] 32 (0,0))) := ⟨by rw [← hq_];exact (pK BK125.out)⟩;have n1_ : Aside0 (Below w.heap.size w w20) := ⟨by rw [← hq_];exact pB⟩;clear BK125 HB hq_;have BK125 := n0_;have HB := n1_;clear n0_ n1_)))));replace BK125 := am (zQf BK125.out);replace HB := am (zQO HB.out);refine zYR (n := 10) (S := fun w' => True) (ds := []) (bm 10 0) (by kernel_rfl) rfl rfl trivial (fun hHeld => ?_);refine zXI dec_cut.tab2 dec_cut.bits2 (fun HT_ HW_ => ?_);generalize w20.drew = w21 at BK125 HB hHeld ⊢
    refine pure_ (i := 0) (N := some 13) (v := ?_) (a' := ?_) (bm 10 1) rfl rfl (zQB HT_.out (by kernel_rfl)) (fun _ _ _ h => h) (Or.inl ⟨by kernel_rfl,?_⟩) ?_ ?_
    rotate_left
    ·intro w';go_simp;with_reducible rfl
    rotate_left
    ·exact pA
    refine pure_ (i := 1) (N := some 14) (v := ?_) (a' := ?_) (bm 10 3) rfl rfl (zQB HT_.out (by kernel_rfl)) (fun _ _ _ h => h) (Or.inl ⟨by kernel_rfl,?_⟩) ?_ ?_
    rotate_left
    ·intro w';go_simp;with_reducible rfl
    rotate_left
    ·exact pA
    refine pure_ (i := 2) (N := some 15) (v := ?_) (a' := ?_) (bm 10 7) rfl rfl (zQB HT_.out (by kernel_rfl)) (fun _ _ _ h => h) (Or.inl ⟨by kernel_rfl,?_⟩) ?_ ?_
    rotate_left
    ·intro w';go_simp;with_reducible rfl
    rotate_left
    ·exact pA
    refine pure_ (i := 3) (N := some 16) (v := ?_) (a' := ?_) (bm 10 15) rfl rfl (zQB HT_.out (by kernel_rfl)) (fun _ _ _ h => h) (Or.inl ⟨by kernel_rfl,?_⟩) ?_ ?_
    rotate_left
    ·intro w';go_simp;with_reducible rfl
    rotate_left
    ·exact pA
    refine pure_ (i := 4) (N := some 17) (v := ?_) (a' := ?_) (bm 10 31) rfl rfl (zQB HT_.out (by kernel_rfl)) (fun _ _ _ h => h) (Or.inl ⟨by kernel_rfl,?_⟩) ?_ ?_
    rotate_left
    ·intro w';go_simp;with_reducible rfl
    rotate_left
    ·exact pA
    refine pure_ (i := 5) (N := some 18) (v := ?_) (a' := ?_) (bm 10 63) rfl rfl (zQB HT_.out (by kernel_rfl)) (fun _ _ _ h => h) (Or.inl ⟨by kernel_rfl,?_⟩) ?_ ?_
    rotate_left
    ·intro w';go_simp;with_reducible rfl
    rotate_left
    ·exact pA
    refine pure_ (i := 6) (N := some 19) (v := ?_) (a' := ?_) (bm 10 127) rfl rfl (zQB HT_.out (by kernel_rfl)) (fun _ _ _ h => h) (Or.inl ⟨by kernel_rfl,?_⟩) ?_ ?_
    rotate_left
    ·intro w';go_simp;with_reducible rfl
    rotate_left
    ·exact pA
    refine one_ (i := 7) (N := some 5) (bm 10 255) rfl rfl (zXa HT_.out (by kernel_rfl)) (by decide) (fun K hK => ?_);refine zBo ?hg (N := 5) ?hd (cs := #[.string (⟨#[]⟩ : ByteArray),.int .i64 0]) (t := 32) ?hr ?_;(case hd => rfl);(case hg => rfl);(case hr => first | (go_simp;done) | (go_simp;rfl));intro gb127 hg w22 hbox hb;have n0_ := am (pkb BK125.out hb);have n1_ := bS hb;have n2_ := am (hbox);have n3_ := am ((by rw [hg];exact (zQa pB) : w.heap.size ≤ gb127));have n4_ := am ((by rw [hg];exact (zQa pB) : w.heap.size ≤ gb127));have n5_ := am ((by rw [hg];exact Nat.ne_of_lt (pkl BK125.out) : gb125 ≠ gb127));have n6_ := am ((by rw [hg];exact Nat.ne_of_gt (pkl BK125.out) : gb127 ≠ gb125));clear BK125 HB;have BK125 := n0_;have HB := n1_;have BK127 := n2_;have GW127 := n3_;have GE127 := n4_;have NB125_127 := n5_;have NB127_125 := n6_;clear n0_ n1_ n2_ n3_ n4_ n5_ n6_ hb hbox hg;refine hK.out _ _ trivial (fun hHeld => ?_);clear hK K
    refine norm_ (a' := ?_) ?_ ?_
    rotate_left
    ·show Act.put _ (some 5) _ = _
     exact pA
    refine one_ (i := 8) (N := none) (bm 10 511) rfl rfl (zXa HT_.out (by kernel_rfl)) (by decide) (fun K hK => ?_);have hs23 : w22.cell? ⟨gb127,0,none⟩ = some (.string (⟨#[]⟩ : ByteArray)) := cz0 BK127.out;have hfs23 := zQJ BK127.out 0;have hns23_0 := NB125_127.out;have hms23_0 := NB127_125.out;have hs24 : w22.cell? ⟨gb127,1,none⟩ = some (.int .i64 0) := cz1 BK127.out;have hfs24 := zQJ BK127.out 1;have hns24_0 := NB125_127.out;have hms24_0 := NB127_125.out;refine skip_ (w1 := ?_) ?hw rfl ?_ ?_;(case hw => kernel_rfl);rotate_left
    ·go_simp
     rfl
    refine hK.out _ _ trivial (fun hHeld => ?_);clear hK K
    refine pure_ (i := 9) (N := some 6) (v := ?_) (a' := ?_) (bm 10 1023) rfl rfl (zQB HT_.out (by kernel_rfl)) (fun _ _ _ h => h) (Or.inl ⟨by kernel_rfl,?_⟩) ?_ ?_
    rotate_left
    ·intro w';go_simp;with_reducible rfl
    rotate_left
    ·exact pA
    refine done_ (zYx HT_.out (by kernel_rfl)) ?_
    go_upto_if 24 with (first | ((with_reducible refine zQb (f := 23) rfl ?_);refine zQi (some 24) rfl rfl Tryz.func23 (by kernel_rfl) rfl #[.string ji8,.string (⟨#[46]⟩ : ByteArray)] rfl (by (try simp only [List.map_toArray,List.map_cons,List.map_nil]);first | done | (simp only [hji8];rfl) | rfl | (simp only [List.length_drop,List.length_take];rfl)) ?_;(with_reducible refine (strings_HasPrefix.calls ji8 (⟨#[46]⟩ : ByteArray) t128 _ A18.out).mono ?_);rintro e w' ⟨rfl,⟨nd,rfl⟩⟩;refine ⟨_,rfl,?_⟩))
    (try simp only [Act.put,List.setIfInBounds_toArray,List.set_cons_zero,List.set_cons_succ])
    go_cut [6] (fun v6 wc => ∃ (kq : Nat) (x6_18 : ByteArray) (x126000_18 : ByteArray) (x126001_18 : Int) (x128000_18 : ByteArray) (x128001_18 : Int),v6 = .string x6_18 ∧ Aside0 (dec_cut.j0 kq x6_18 x128000_18 x128001_18 = some (r1,r2,r3)) ∧ Aside0 (kq ≤ k) ∧ Aside0 (wc.heap[gb125]? = some (.cells #[.string x126000_18,.int .i64 x126001_18] 32 (0,0))) ∧ Aside0 (wc.heap[gb127]? = some (.cells #[.string x128000_18,.int .i64 x128001_18] 32 (0,0))) ∧ Aside0 (Below w.heap.size w wc))
    case first =>
     have H := HC19.out;clear HC19;by_cases c25 : t128 = true
     ·subst c25;rw [if_pos rfl] at H;by_cases c26 : 1 ≤ ((ji8).size : Int)
      ·rw [if_pos c26] at H;have c26b0 := eq_true c26;have c26b1 : decide (1 ≤ ((ji8).size : Int)) = true := decide_eq_true c26;clear c26;obtain ⟨ji27,hji27⟩ : ∃ j_ : ByteArray,((ji8).extract 1 (ji8).size) = j_ := ⟨_,rfl⟩;(replace H : ((dec_digits.f k (ji27)).bind fun t129 => (if t129 = 0 then (some (ji5,0,false)) else (if 1 ≤ (wrap64 (1 + t129)) then (if (wrap64 (1 + t129)) ≤ ((ji8).size : Int) then (if (ji5).size + ((ji8).extract 1 ((wrap64 (1 + t129)) : Int).toNat).size ≤ 9223372036854775807 then (if 0 ≤ (wrap64 (1 + t129)) then (dec_cut.j0 k ((ji8).extract ((wrap64 (1 + t129)) : Int).toNat (ji8).size) ((ji5) ++ ((ji8).extract 1 ((wrap64 (1 + t129)) : Int).toNat)) (wrap64 (-t129))) else (none)) else (none)) else (none)) else (none)))) = some (r1,r2,r3) := by first | (rw [hji27] at H;exact H) | (simp only [hji27] at H ⊢;exact H) | exact H);obtain ⟨t129,A28,H⟩ := oB H;(try dsimp only at H);by_cases c29 : t129 = 0
       ·rw [if_pos c29] at H;have c29b0 : (t129 == 0) = true := beq_iff_eq.mpr c29;have c29b1 : (t129 != 0) = false := bne_eq_false_iff_eq.mpr c29;clear c29;(first | rw [c29b0] | (simp only [i64_w,i32_w];rw [c29b0]) | rw [c29b1] | (simp only [i64_w,i32_w];rw [c29b1]) | skip);simp only [Option.some.injEq,Prod.mk.injEq] at H;obtain ⟨rfl,rfl,rfl⟩ := H;go_wp2_with (first | ((with_reducible refine zQb (f := 22) rfl ?_);refine zQi (some 27) rfl rfl Tryz.func22 (by kernel_rfl) rfl #[.string ji27] rfl (by (try simp only [List.map_toArray,List.map_cons,List.map_nil]);first | done | (simp only [hji27];rfl) | rfl | (simp only [List.length_drop,List.length_take];rfl)) ?_;(with_reducible refine (dec_digits.calls k ji27 t129 _ A28.out).mono ?_);rintro e w' ⟨rfl,⟨nd,rfl⟩⟩;refine ⟨_,rfl,?_⟩;have hnb30 := NB127_125.out;have hnc30 := NB125_127.out;have q31 := cf2 BK127.out;have q32 := cf2 BK125.out))
        refine bodyPost_ret (zYp rfl _ _ gb125 32 #[.string ji5,.int .i64 0] (0,0) _ rfl (by (with_reducible repeat (first | refine zQc ?_ _ | refine zQf ?_ | refine zQd ?_ _));refine zQC (cs := #[.string ji5,.int .i64 0]) ?_ 1 _ rfl;(with_reducible repeat (first | refine zQc ?_ _ | refine zQf ?_ | refine zQd ?_ _));refine zQC (cs := #[.string (⟨#[]⟩ : ByteArray),.int .i64 0]) ?_ 0 _ rfl;(with_reducible repeat (first | refine zQc ?_ _ | refine zQf ?_ | refine zQd ?_ _));refine zQN ?_ NB125_127.out _;(with_reducible repeat (first | refine zQc ?_ _ | refine zQf ?_ | refine zQd ?_ _));refine zQN ?_ NB125_127.out _;(with_reducible repeat (first | refine zQc ?_ _ | refine zQf ?_ | refine zQd ?_ _));exact BK125.out) Tryz.underlying32 rfl (by kernel_rfl)) rfl ?_
        exact ⟨by first | rfl | (simp [zQy,zQx] <;> rfl) | (simp only [← hji5,← hji8,← hji27];first | rfl | (simp [zQy,zQx] <;> rfl)) | (simp [*,zQy,zQx] <;> rfl),pB⟩
       ·rw [if_neg c29] at H;have c29b0 : (t129 == 0) = false := beq_eq_false_iff_ne.mpr c29;have c29b1 : (t129 != 0) = true := bne_iff_ne.mpr c29;(first | rw [c29b0] | (simp only [i64_w,i32_w];rw [c29b0]) | rw [c29b1] | (simp only [i64_w,i32_w];rw [c29b1]) | skip);by_cases c33 : 1 ≤ (wrap64 (1 + t129))
        ·rw [if_pos c33] at H;have c33b0 := eq_true c33;have c33b1 : decide (1 ≤ (wrap64 (1 + t129))) = true := decide_eq_true c33;by_cases c34 : (wrap64 (1 + t129)) ≤ ((ji8).size : Int)
         ·rw [if_pos c34] at H;have c34b0 := eq_true c34;have c34b1 : decide ((wrap64 (1 + t129)) ≤ ((ji8).size : Int)) = true := decide_eq_true c34;obtain ⟨ji35,hji35⟩ : ∃ j_ : ByteArray,((ji8).extract 1 ((wrap64 (1 + t129)) : Int).toNat) = j_ := ⟨_,rfl⟩;(replace H : (if (ji5).size + (ji35).size ≤ 9223372036854775807 then (if 0 ≤ (wrap64 (1 + t129)) then (dec_cut.j0 k ((ji8).extract ((wrap64 (1 + t129)) : Int).toNat (ji8).size) ((ji5) ++ (ji35)) (wrap64 (-t129))) else (none)) else (none)) = some (r1,r2,r3) := by first | (rw [hji35] at H;exact H) | (simp only [hji35] at H ⊢;exact H) | exact H);(try rw [hji35] at A28);by_cases c36 : (ji5).size + (ji35).size ≤ 9223372036854775807
          ·rw [if_pos c36] at H;have c36b0 := eq_true c36;have c36b1 : decide ((ji5).size + (ji35).size ≤ 9223372036854775807) = true := decide_eq_true c36;(try have c36b2 : (9223372036854775807 < (ji5).size + (ji35).size) = False := eq_false (Nat.not_lt.2 c36));obtain ⟨ji37,hji37⟩ : ∃ j_ : Int,(wrap64 (1 + t129)) = j_ := ⟨_,rfl⟩;(replace H : (if 0 ≤ (ji37) then (dec_cut.j0 k ((ji8).extract ((ji37) : Int).toNat (ji8).size) ((ji5) ++ (ji35)) (wrap64 (-t129))) else (none)) = some (r1,r2,r3) := by first | (rw [hji37] at H;exact H) | (simp only [hji37] at H ⊢;exact H));(try rw [hji37] at hji35);(try rw [hji37] at c33b0);(try rw [hji37] at c33b1);(try rw [hji37] at c33);(try rw [hji37] at c34b0);(try rw [hji37] at c34b1);(try rw [hji37] at c34);(try rw [hji37] at A28);have hji37w : (IntKind.i64.wrap (1 + t129)) = ji37 := (i64_w _).trans hji37;by_cases c38 : 0 ≤ (ji37)
           ·rw [if_pos c38] at H;have c38b0 := eq_true c38;have c38b1 : decide (0 ≤ (ji37)) = true := decide_eq_true c38;clear c38;have c39b0 := eq_true (pD : (ji37) ≤ ((ji8).size : Int));obtain ⟨ji40,hji40⟩ : ∃ j_ : ByteArray,((ji8).extract ((ji37) : Int).toNat (ji8).size) = j_ := ⟨_,rfl⟩;(replace H : (dec_cut.j0 k ji40 ((ji5) ++ (ji35)) (wrap64 (-t129))) = some (r1,r2,r3) := by first | (rw [hji40] at H;exact H) | (simp only [hji40] at H ⊢;exact H) | exact H);(try rw [hji40] at A28);have H' := am H;clear H;(try go_wp2_with (first | ((with_reducible refine zQb (f := 22) rfl ?_);refine zQi (some 27) rfl rfl Tryz.func22 (by kernel_rfl) rfl #[.string ji27] rfl (by (try simp only [List.map_toArray,List.map_cons,List.map_nil]);first | done | (simp only [hji27];rfl) | rfl | (simp only [List.length_drop,List.length_take];rfl)) ?_;(with_reducible refine (dec_digits.calls k ji27 t129 _ A28.out).mono ?_);rintro e w' ⟨rfl,⟨nd,rfl⟩⟩;refine ⟨_,rfl,?_⟩)));have n0_ : Aside0 (((w22.setCell ⟨gb127,0,none⟩ (.string ji5)).setCell ⟨gb127,1,none⟩ (.int .i64 0)).heap[gb125]? = some (.cells #[.string (⟨#[]⟩ : ByteArray),.int .i64 0] 32 (0,0))) := ⟨by (with_reducible repeat (first | refine zQc ?_ _ | refine zQf ?_ | refine zQd ?_ _));refine zQN ?_ NB125_127.out _;(with_reducible repeat (first | refine zQc ?_ _ | refine zQf ?_ | refine zQd ?_ _));refine zQN ?_ NB125_127.out _;(with_reducible repeat (first | refine zQc ?_ _ | refine zQf ?_ | refine zQd ?_ _));exact BK125.out⟩;have n1_ : Aside0 (((w22.setCell ⟨gb127,0,none⟩ (.string ji5)).setCell ⟨gb127,1,none⟩ (.int .i64 0)).heap[gb127]? = some (.cells #[.string ji5,.int .i64 0] 32 (0,0))) := ⟨by (with_reducible repeat (first | refine zQc ?_ _ | refine zQf ?_ | refine zQd ?_ _));refine zQC (cs := #[.string ji5,.int .i64 0]) ?_ 1 _ rfl;(with_reducible repeat (first | refine zQc ?_ _ | refine zQf ?_ | refine zQd ?_ _));refine zQC (cs := #[.string (⟨#[]⟩ : ByteArray),.int .i64 0]) ?_ 0 _ rfl;(with_reducible repeat (first | refine zQc ?_ _ | refine zQf ?_ | refine zQd ?_ _));exact BK127.out⟩;have n2_ : Aside0 (Below w.heap.size w ((w22.setCell ⟨gb127,0,none⟩ (.string ji5)).setCell ⟨gb127,1,none⟩ (.int .i64 0))) := ⟨pB⟩;(try clear BK125);(try clear BK127);(try clear HB);generalize ((w22.setCell ⟨gb127,0,none⟩ (.string ji5)).setCell ⟨gb127,1,none⟩ (.int .i64 0)) = w41 at n0_ n1_ n2_ ⊢;have BK125 := n0_;have BK127 := n1_;have HB := n2_;clear n0_ n1_ n2_;(try (rw [zXj w41];generalize hq_ : World.drewN w41 _ = w41;have n0_ : Aside0 (w41.heap[gb125]? = some (.cells #[.string (⟨#[]⟩ : ByteArray),.int .i64 0] 32 (0,0))) := ⟨by rw [← hq_];exact (pK BK125.out)⟩;have n1_ : Aside0 (w41.heap[gb127]? = some (.cells #[.string ji5,.int .i64 0] 32 (0,0))) := ⟨by rw [← hq_];exact (pK BK127.out)⟩;have n2_ : Aside0 (Below w.heap.size w w41) := ⟨by rw [← hq_];exact pB⟩;clear BK125 BK127 HB hq_;have BK125 := n0_;have BK127 := n1_;have HB := n2_;clear n0_ n1_ n2_));replace BK125 := am (zQf BK125.out);replace BK127 := am (zQf BK127.out);replace HB := am (zQO HB.out);refine zYR (n := 18) (S := fun w' => w'.cell? ⟨gb127,0,none⟩ = some (.string ji5) ∧ w'.cell? ⟨gb127,1,none⟩ = some (.int .i64 0)) (ds := [14,16]) (bm 18 0) (by kernel_rfl) rfl rfl ⟨cz0 BK127.out,cz1 BK127.out⟩ (fun hHeld => ?_);refine zXI dec_cut.tab9 dec_cut.bits9 (fun HT_ HW_ => ?_);generalize w41.drew = w42 at BK125 BK127 HB hHeld ⊢
            refine pure_ (i := 0) (N := some 31) (v := ?_) (a' := ?_) (bm 18 1) rfl rfl (zQB HT_.out (by kernel_rfl)) (fun _ _ _ h => h) (Or.inl ⟨by kernel_rfl,?_⟩) ?_ ?_
            rotate_left
            ·intro w';go_simp;with_reducible rfl
            rotate_left
            ·exact pA
            refine pure_ (i := 2) (N := some 33) (v := ?_) (a' := ?_) (bm 18 5) rfl rfl (zQB HT_.out (by kernel_rfl)) (fun _ _ _ h => h) (Or.inl ⟨by kernel_rfl,?_⟩) ?_ ?_
            rotate_left
            ·intro w';go_simp;with_reducible rfl
            rotate_left
            ·exact pA
            refine pure_ (i := 3) (N := some 34) (v := ?_) (a' := ?_) (bm 18 13) rfl rfl (zQB HT_.out (by kernel_rfl)) (fun _ _ _ h => h) (Or.inl ⟨by kernel_rfl,?_⟩) ?_ ?_
            rotate_left
            ·intro w';go_simp;with_reducible rfl
            rotate_left
            ·exact pA
            refine pure_ (i := 4) (N := some 35) (v := ?_) (a' := ?_) (bm 18 29) rfl rfl (zQB HT_.out (by kernel_rfl)) (fun _ _ _ h => h) (Or.inl ⟨by kernel_rfl,?_⟩) ?_ ?_
            rotate_left
            ·intro w';go_simp;with_reducible rfl
            rotate_left
            ·exact pA
            refine pure_ (i := 5) (N := some 36) (v := ?_) (a' := ?_) (bm 18 61) rfl rfl (zQB HT_.out (by kernel_rfl)) (fun _ _ _ h => h) (Or.inl ⟨by kernel_rfl,?_⟩) ?_ ?_
            rotate_left
            ·intro w';go_simp;with_reducible rfl
            rotate_left
            ·exact pA
            refine pure_ (i := 7) (N := some 38) (v := ?_) (a' := ?_) (bm 18 189) rfl rfl (zQB HT_.out (by kernel_rfl)) (fun _ _ _ h => h) (Or.inl ⟨by kernel_rfl,?_⟩) ?_ ?_
            rotate_left
            ·intro w';go_simp;with_reducible rfl
            rotate_left
            ·exact pA
            refine pure_ (i := 8) (N := some 39) (v := ?_) (a' := ?_) (bm 18 445) rfl rfl (zQB HT_.out (by kernel_rfl)) (fun _ _ _ h => h) (Or.inl ⟨by kernel_rfl,?_⟩) ?_ ?_
            rotate_left
            ·intro w';go_simp;with_reducible rfl
            rotate_left
            ·exact pA
            refine pure_ (i := 9) (N := some 40) (v := ?_) (a' := ?_) (bm 18 957) rfl rfl (zQB HT_.out (by kernel_rfl)) (fun _ _ _ h => h) (Or.inl ⟨by kernel_rfl,?_⟩) ?_ ?_
            rotate_left
            ·intro w';go_simp;with_reducible rfl
            rotate_left
            ·exact pA
            refine pure_ (i := 10) (N := some 41) (v := ?_) (a' := ?_) (bm 18 1981) rfl rfl (zQB HT_.out (by kernel_rfl)) (fun _ _ _ h => h) (Or.inl ⟨by kernel_rfl,?_⟩) ?_ ?_
            rotate_left
            ·intro w';go_simp;with_reducible rfl
            rotate_left
            ·exact pA
            refine pure_ (i := 11) (N := some 42) (v := ?_) (a' := ?_) (bm 18 4029) rfl rfl (zQB HT_.out (by kernel_rfl)) (fun _ _ _ h => h) (Or.inl ⟨by kernel_rfl,?_⟩) ?_ ?_
            rotate_left
            ·intro w';go_simp;with_reducible rfl
            rotate_left
            ·exact pA
            refine pure_ (i := 12) (N := some 43) (v := ?_) (a' := ?_) (bm 18 8125) rfl rfl (zQB HT_.out (by kernel_rfl)) (fun _ _ _ h => h) (Or.inl ⟨by kernel_rfl,?_⟩) ?_ ?_
            rotate_left
            ·intro w';go_simp;with_reducible rfl
            rotate_left
            ·exact pA
            refine take_ (i := 1) (N := some 32) (v := ?_) (a' := ?_) (bm 18 8127) rfl rfl (zXr HT_.out HW_.out (by kernel_rfl)) (fun _ _ _ h => h) (Or.inl ⟨by kernel_rfl,?_⟩) hHeld ?_ ?_
            rotate_left
            ·rintro w' ⟨s0,s1⟩;go_simp;with_reducible rfl
            rotate_left
            ·exact pA
            refine pure_ (i := 6) (N := some 37) (v := ?_) (a' := ?_) (bm 18 8191) rfl rfl (zQB HT_.out (by kernel_rfl)) (fun _ _ _ h => h) (Or.inl ⟨by kernel_rfl,?_⟩) ?_ ?_
            rotate_left
            ·intro w';go_simp;with_reducible rfl
            rotate_left
            ·exact pA
            refine pure_ (i := 13) (N := some 44) (v := ?_) (a' := ?_) (bm 18 16383) rfl rfl (zQB HT_.out (by kernel_rfl)) (fun _ _ _ h => h) (Or.inl ⟨by kernel_rfl,?_⟩) ?_ ?_
            rotate_left
            ·intro w';go_simp;with_reducible rfl
            rotate_left
            ·exact pA
            refine last_ (i := 14) (N := none) (bm 18 32767) rfl rfl (zXa HT_.out (by kernel_rfl)) (by decide) (fun K hK => ?_);have hs43 : w42.cell? ⟨gb127,0,none⟩ = some (.string ji5) := cz0 BK127.out;have hfs43 := zQJ BK127.out 0;have hns43_0 := NB125_127.out;have hms43_0 := NB127_125.out;refine skip_ (w1 := ?_) ?hw rfl ?_ ?_;(case hw => kernel_rfl);rotate_left
            ·go_simp
             rfl
            refine hK.out _ _ ?_
            clear hK K
            refine pure_ (i := 15) (N := some 45) (v := ?_) (a' := ?_) (bm 18 65535) rfl rfl (zQB HT_.out (by kernel_rfl)) (fun _ _ _ h => h) (Or.inl ⟨by kernel_rfl,?_⟩) ?_ ?_
            rotate_left
            ·intro w';go_simp;with_reducible rfl
            rotate_left
            ·exact pA
            refine last_ (i := 16) (N := none) (bm 18 131071) rfl rfl (zXa HT_.out (by kernel_rfl)) (by decide) (fun K hK => ?_);have hs44 : w42.cell? ⟨gb127,1,none⟩ = some (.int .i64 0) := cz1 BK127.out;have hfs44 := zQJ BK127.out 1;have hns44_0 := NB125_127.out;have hms44_0 := NB127_125.out;refine skip_ (w1 := ?_) ?hw rfl ?_ ?_;(case hw => kernel_rfl);rotate_left
            ·go_simp
             rfl
            refine hK.out _ _ ?_
            clear hK K
            refine pure_ (i := 17) (N := some 6) (v := ?_) (a' := ?_) (bm 18 262143) rfl rfl (zQB HT_.out (by kernel_rfl)) (fun _ _ _ h => h) (Or.inl ⟨by kernel_rfl,?_⟩) ?_ ?_
            rotate_left
            ·intro w';go_simp;with_reducible rfl
            rotate_left
            ·exact pA
            refine done_ (zYx HT_.out (by kernel_rfl)) ?_
            (try go_wp2);go_meet
            case rel => exact ⟨_,(ji40),((⟨#[]⟩ : ByteArray)),(0),((ji5) ++ (ji35)),(wrap64 (-t129)),(by first | rfl | (simp;done) | (simp only [← hji40] <;> (first | rfl | simp)) | (simp [*];done)),H',⟨by first | omega | exact Nat.le_refl _⟩,⟨by (with_reducible repeat (first | refine zQc ?_ _ | refine zQf ?_ | refine zQd ?_ _));refine zQN ?_ NB125_127.out _;(with_reducible repeat (first | refine zQc ?_ _ | refine zQf ?_ | refine zQd ?_ _));refine zQN ?_ NB125_127.out _;(with_reducible repeat (first | refine zQc ?_ _ | refine zQf ?_ | refine zQd ?_ _));exact BK125.out⟩,⟨by (with_reducible repeat (first | refine zQc ?_ _ | refine zQf ?_ | refine zQd ?_ _));refine zQC (cs := #[.string ((ji5) ++ (ji35)),.int .i64 0]) ?_ 1 _ rfl;(with_reducible repeat (first | refine zQc ?_ _ | refine zQf ?_ | refine zQd ?_ _));refine zQC (cs := #[.string ji5,.int .i64 0]) ?_ 0 _ rfl;(with_reducible repeat (first | refine zQc ?_ _ | refine zQf ?_ | refine zQd ?_ _));exact BK127.out⟩,⟨pB⟩⟩
           ·rw [if_neg c38] at H
            cases H
          ·rw [if_neg c36] at H
           cases H
         ·rw [if_neg c34] at H
          cases H
        ·rw [if_neg c33] at H
         cases H
      ·rw [if_neg c26] at H
       cases H
     ·replace c25 := Bool.eq_false_iff.mpr c25;subst c25;rw [if_neg (show ¬ (false = true) by decide)] at H;have H' := am H;clear H;go_wp2;go_meet
      case rel => exact ⟨_,(ji8),((⟨#[]⟩ : ByteArray)),(0),(ji5),(0),(by first | rfl | (simp;done) | (simp only [← hji8] <;> (first | rfl | simp)) | (simp [*];done)),H',⟨by first | omega | exact Nat.le_refl _⟩,⟨by (with_reducible repeat (first | refine zQc ?_ _ | refine zQf ?_ | refine zQd ?_ _));refine zQN ?_ NB125_127.out _;(with_reducible repeat (first | refine zQc ?_ _ | refine zQf ?_ | refine zQd ?_ _));refine zQN ?_ NB125_127.out _;(with_reducible repeat (first | refine zQc ?_ _ | refine zQf ?_ | refine zQd ?_ _));exact BK125.out⟩,⟨by (with_reducible repeat (first | refine zQc ?_ _ | refine zQf ?_ | refine zQd ?_ _));refine zQC (cs := #[.string ji5,.int .i64 0]) ?_ 1 _ rfl;(with_reducible repeat (first | refine zQc ?_ _ | refine zQf ?_ | refine zQd ?_ _));refine zQC (cs := #[.string (⟨#[]⟩ : ByteArray),.int .i64 0]) ?_ 0 _ rfl;(with_reducible repeat (first | refine zQc ?_ _ | refine zQf ?_ | refine zQd ?_ _));exact BK127.out⟩,⟨pB⟩⟩
    case rest =>
     clear HC19;(try clear c1);(try clear c2);(try clear p2);(try clear c3);(try clear c3b0);(try clear c3b1);(try clear c4);(try clear c4b0);(try clear c4b1);(try clear c6);(try clear c6b0);(try clear p6);(try clear c7);(try clear c7b0);(try clear c9);(try clear c9b0);(try clear c9b1);(try clear c10);(try clear c15);(try clear c22);(try clear c23);(try clear c25);(try clear c26);(try clear c26b0);(try clear c26b1);(try clear c29);(try clear c29b0);(try clear c29b1);(try clear c30);(try clear c33);(try clear c33b0);(try clear c33b1);(try clear c34);(try clear c34b0);(try clear c34b1);(try clear c36);(try clear c36b0);(try clear c36b1);(try clear c36b2);(try clear c38);(try clear c38b0);(try clear c38b1);(try clear c39);(try clear c39b0);(try clear q16 q17 q31 q32);obtain ⟨kq,x6_18,x126000_18,x126001_18,x128000_18,x128001_18,rfl,HA,HJ18,BK125,BK127,HB⟩ := hcut
     cases kq with
     | zero => exact absurd HA.out (by simp [dec_cut.j0])
     | succ kj18 =>
      have H := HA.out;clear HA;simp only [dec_cut.j0] at H;by_cases c45 : x6_18.toList = ([] : List UInt8)
      ·rw [if_pos c45] at H;have c45b0 : (x6_18.toList == ([] : List UInt8)) = true := beq_iff_eq.mpr c45;have c45b1 : (x6_18.toList != ([] : List UInt8)) = false := bne_eq_false_iff_eq.mpr c45;clear c45;simp only [Option.some.injEq,Prod.mk.injEq] at H;obtain ⟨rfl,rfl,rfl⟩ := H;have hnb46 := NB127_125.out;have hnc46 := NB125_127.out;have q47 := cf2 BK127.out;have q48 := cf2 BK125.out;go_wp2
       refine bodyPost_ret (zYp rfl _ _ gb125 32 #[.string x128000_18,.int .i64 x128001_18] (0,0) _ rfl (by (with_reducible repeat (first | refine zQc ?_ _ | refine zQf ?_ | refine zQd ?_ _));refine zQC (cs := #[.string x128000_18,.int .i64 x126001_18]) ?_ 1 _ rfl;(with_reducible repeat (first | refine zQc ?_ _ | refine zQf ?_ | refine zQd ?_ _));refine zQC (cs := #[.string x126000_18,.int .i64 x126001_18]) ?_ 0 _ rfl;(with_reducible repeat (first | refine zQc ?_ _ | refine zQf ?_ | refine zQd ?_ _));exact BK125.out) Tryz.underlying32 rfl (by kernel_rfl)) rfl ?_
       exact ⟨by first | rfl | (simp [zQy,zQx] <;> rfl) | (simp only [← hji5,← hji8];first | rfl | (simp [zQy,zQx] <;> rfl)) | (simp [*,zQy,zQx] <;> rfl),pB⟩
      ·rw [if_neg c45] at H;have c45b0 : (x6_18.toList == ([] : List UInt8)) = false := beq_eq_false_iff_ne.mpr c45;have c45b1 : (x6_18.toList != ([] : List UInt8)) = true := bne_iff_ne.mpr c45;have HC49 := am H;clear H;go_upto_region 12 with (fail)
       go_cut [56] (fun v56 wc => ∃ (kq : Nat) (x56_48 : Bool),v56 = .bool x56_48 ∧ Aside0 (dec_cut.j1 kq x6_18 x56_48 x128000_18 x128001_18 = some (r1,r2,r3)) ∧ Aside0 (kq ≤ kj18) ∧ Aside0 (wc.heap[gb125]? = some (.cells #[.string x126000_18,.int .i64 x126001_18] 32 (0,0))) ∧ Aside0 (wc.heap[gb127]? = some (.cells #[.string x128000_18,.int .i64 x128001_18] 32 (0,0))) ∧ Aside0 (Below w.heap.size w wc))
       case first =>
        have H := HC49.out;clear HC49;by_cases c50 : 0 < (x6_18.size : Int)
        ·rw [if_pos c50] at H;have c50b0 : decide (0 < (x6_18.size : Int)) = true := decide_eq_true c50;have c50b1 : decide (0 < x6_18.size) = true := decide_eq_true (by omega);clear c50;(first | rw [c50b0] | (simp only [i64_w,i32_w];rw [c50b0]) | rw [c50b1] | (simp only [i64_w,i32_w];rw [c50b1]) | skip);by_cases c52 : (bt x6_18 0) = 101
         ·rw [if_pos c52] at H;have c52b0 : ((bt x6_18 0) == 101) = true := beq_iff_eq.mpr c52;have c52b1 : ((bt x6_18 0) != 101) = false := bne_eq_false_iff_eq.mpr c52;clear c52;have H' := am H;clear H;have p51 : 0 ≤ (0 : Int) := (by omega);have q51 : 0 < x6_18.size := (by have : (0 : Int) < (x6_18.size : Int) := pD;omega);have hx51 : ∀ h : 0 < x6_18.size,((x6_18[0]'h).toNat : Int) = bt x6_18 0 := bt_at x6_18 0;clear p51;have qi51 : (0 < (x6_18.size : Int)) = True := eq_true pD;replace q51 := eq_true q51;go_wp2;go_meet
          case rel => exact ⟨_,(false),pS,H',⟨by have := HJ18.out;first | omega | exact Nat.le_refl _⟩,⟨pK BK125.out⟩,⟨pK BK127.out⟩,⟨pB⟩⟩
         ·rw [if_neg c52] at H;have c52b0 : ((bt x6_18 0) == 101) = false := beq_eq_false_iff_ne.mpr c52;have c52b1 : ((bt x6_18 0) != 101) = true := bne_iff_ne.mpr c52;have H' := am H;clear H;have p51 : 0 ≤ (0 : Int) := (by omega);have q51 : 0 < x6_18.size := (by have : (0 : Int) < (x6_18.size : Int) := pD;omega);have hx51 : ∀ h : 0 < x6_18.size,((x6_18[0]'h).toNat : Int) = bt x6_18 0 := bt_at x6_18 0;clear p51;have qi51 : (0 < (x6_18.size : Int)) = True := eq_true pD;replace q51 := eq_true q51;have p53 : 0 ≤ (0 : Int) := (by omega);have q53 : 0 < x6_18.size := (by have : (0 : Int) < (x6_18.size : Int) := pD;omega);have hx53 : ∀ h : 0 < x6_18.size,((x6_18[0]'h).toNat : Int) = bt x6_18 0 := bt_at x6_18 0;clear p53;have qi53 : (0 < (x6_18.size : Int)) = True := eq_true pD;replace q53 := eq_true q53;go_wp2;go_meet
          case rel => exact ⟨_,(((bt x6_18 0) != 69)),pS,H',⟨by have := HJ18.out;first | omega | exact Nat.le_refl _⟩,⟨pK BK125.out⟩,⟨pK BK127.out⟩,⟨pB⟩⟩
        ·rw [if_neg c50] at H
         cases H
       case rest =>
        clear HC49;(try clear c1);(try clear c2);(try clear p2);(try clear c3);(try clear c3b0);(try clear c3b1);(try clear c4);(try clear c4b0);(try clear c4b1);(try clear c5);(try clear p5);(try clear q5);(try clear hx5);(try clear qi5);(try clear c6);(try clear c6b0);(try clear p6);(try clear c7);(try clear c7b0);(try clear c9);(try clear c9b0);(try clear c9b1);(try clear c10);(try clear c15);(try clear c22);(try clear c23);(try clear c25);(try clear c26);(try clear c26b0);(try clear c26b1);(try clear c29);(try clear c29b0);(try clear c29b1);(try clear c30);(try clear c33);(try clear c33b0);(try clear c33b1);(try clear c34);(try clear c34b0);(try clear c34b1);(try clear c36);(try clear c36b0);(try clear c36b1);(try clear c36b2);(try clear c38);(try clear c38b0);(try clear c38b1);(try clear c39);(try clear c39b0);(try clear c45);(try clear c45b0);(try clear c45b1);(try clear c46);(try clear c50);(try clear c50b0);(try clear c50b1);(try clear p51);(try clear q51);(try clear hx51);(try clear qi51);(try clear c52);(try clear c52b0);(try clear c52b1);(try clear p53);(try clear q53);(try clear hx53);(try clear qi53);(try clear q16 q17 q31 q32 q47 q48);(try clear p2);(try clear p51);(try clear p53);(try clear p6);(try clear q51);(try clear q53);obtain ⟨kq,x56_48,rfl,HA,HJ48,BK125,BK127,HB⟩ := hcut
        cases kq with
        | zero => exact absurd HA.out (by simp [dec_cut.j1])
        | succ kj48 =>
         have H := HA.out;clear HA;simp only [dec_cut.j1] at H;by_cases c54 : x56_48 = true
         ·subst c54;rw [if_pos rfl] at H;simp only [Option.some.injEq,Prod.mk.injEq] at H;obtain ⟨rfl,rfl,rfl⟩ := H;have hnb55 := NB127_125.out;have hnc55 := NB125_127.out;have q56 := cf2 BK127.out;have q57 := cf2 BK125.out;go_wp2
          refine bodyPost_ret (zYp rfl _ _ gb125 32 #[.string x128000_18,.int .i64 x128001_18] (0,0) _ rfl (by (with_reducible repeat (first | refine zQc ?_ _ | refine zQf ?_ | refine zQd ?_ _));refine zQC (cs := #[.string x128000_18,.int .i64 x126001_18]) ?_ 1 _ rfl;(with_reducible repeat (first | refine zQc ?_ _ | refine zQf ?_ | refine zQd ?_ _));refine zQC (cs := #[.string x126000_18,.int .i64 x126001_18]) ?_ 0 _ rfl;(with_reducible repeat (first | refine zQc ?_ _ | refine zQf ?_ | refine zQd ?_ _));exact BK125.out) Tryz.underlying32 rfl (by kernel_rfl)) rfl ?_
          exact ⟨by first | rfl | (simp [zQy,zQx] <;> rfl) | (simp only [← hji5,← hji8];first | rfl | (simp [zQy,zQx] <;> rfl)) | (simp [*,zQy,zQx] <;> rfl),pB⟩
         ·replace c54 := Bool.eq_false_iff.mpr c54;subst c54;rw [if_neg (show ¬ (false = true) by decide)] at H;by_cases c58 : 1 ≤ (x6_18.size : Int)
          ·rw [if_pos c58] at H;have c58b0 := eq_true c58;have c58b1 : decide (1 ≤ (x6_18.size : Int)) = true := decide_eq_true c58;clear c58;obtain ⟨ji59,hji59⟩ : ∃ j_ : ByteArray,(x6_18.extract 1 x6_18.size) = j_ := ⟨_,rfl⟩;(replace H : (if (ji59).toList = ([] : List UInt8) then (dec_cut.j2 kj48 ji59 1 false x128000_18 x128001_18) else (if 0 < ((ji59).size : Int) then (if (bt (ji59) 0) = 43 then (dec_cut.j2 kj48 ji59 1 true x128000_18 x128001_18) else (dec_cut.j2 kj48 ji59 1 ((bt (ji59) 0) == 45) x128000_18 x128001_18)) else (none))) = some (r1,r2,r3) := by first | (rw [hji59] at H;exact H) | (simp only [hji59] at H ⊢;exact H) | exact H);have HC60 := am H;clear H;go_upto_region 16 with (fail)
           go_cut [71] (fun v71 wc => ∃ (kq : Nat) (x71_59 : Bool),v71 = .bool x71_59 ∧ Aside0 (dec_cut.j2 kq ji59 1 x71_59 x128000_18 x128001_18 = some (r1,r2,r3)) ∧ Aside0 (kq ≤ kj48) ∧ Aside0 (wc.heap[gb125]? = some (.cells #[.string x126000_18,.int .i64 x126001_18] 32 (0,0))) ∧ Aside0 (wc.heap[gb127]? = some (.cells #[.string x128000_18,.int .i64 x128001_18] 32 (0,0))) ∧ Aside0 (Below w.heap.size w wc))
           case first =>
            have H := HC60.out;clear HC60;by_cases c61 : (ji59).toList = ([] : List UInt8)
            ·rw [if_pos c61] at H;have c61b0 : ((ji59).toList == ([] : List UInt8)) = true := beq_iff_eq.mpr c61;have c61b1 : ((ji59).toList != ([] : List UInt8)) = false := bne_eq_false_iff_eq.mpr c61;clear c61;(first | rw [c61b0] | (simp only [i64_w,i32_w];rw [c61b0]) | rw [c61b1] | (simp only [i64_w,i32_w];rw [c61b1]) | skip);have H' := am H;clear H;go_wp2;go_meet
             case rel => exact ⟨_,(false),pS,H',⟨by have := HJ18.out;have := HJ48.out;first | omega | exact Nat.le_refl _⟩,⟨pK BK125.out⟩,⟨pK BK127.out⟩,⟨pB⟩⟩
            ·rw [if_neg c61] at H;have c61b0 : ((ji59).toList == ([] : List UInt8)) = false := beq_eq_false_iff_ne.mpr c61;have c61b1 : ((ji59).toList != ([] : List UInt8)) = true := bne_iff_ne.mpr c61;(first | rw [c61b0] | (simp only [i64_w,i32_w];rw [c61b0]) | rw [c61b1] | (simp only [i64_w,i32_w];rw [c61b1]) | skip);by_cases c62 : 0 < ((ji59).size : Int)
             ·rw [if_pos c62] at H;have c62b0 : decide (0 < ((ji59).size : Int)) = true := decide_eq_true c62;have c62b1 : decide (0 < (ji59).size) = true := decide_eq_true (by omega);clear c62;by_cases c64 : (bt (ji59) 0) = 43
              ·rw [if_pos c64] at H;have c64b0 : ((bt (ji59) 0) == 43) = true := beq_iff_eq.mpr c64;have c64b1 : ((bt (ji59) 0) != 43) = false := bne_eq_false_iff_eq.mpr c64;clear c64;have H' := am H;clear H;have p63 : 0 ≤ (0 : Int) := (by omega);have q63 : 0 < ji59.size := (by have : (0 : Int) < (ji59.size : Int) := pD;omega);have hx63 : ∀ h : 0 < ji59.size,((ji59[0]'h).toNat : Int) = bt ji59 0 := bt_at ji59 0;clear p63;have qi63 : (0 < (ji59.size : Int)) = True := eq_true pD;replace q63 := eq_true q63;go_wp2;go_meet
               case rel => exact ⟨_,(true),pS,H',⟨by have := HJ18.out;have := HJ48.out;first | omega | exact Nat.le_refl _⟩,⟨pK BK125.out⟩,⟨pK BK127.out⟩,⟨pB⟩⟩
              ·rw [if_neg c64] at H;have c64b0 : ((bt (ji59) 0) == 43) = false := beq_eq_false_iff_ne.mpr c64;have c64b1 : ((bt (ji59) 0) != 43) = true := bne_iff_ne.mpr c64;have H' := am H;clear H;have p63 : 0 ≤ (0 : Int) := (by omega);have q63 : 0 < ji59.size := (by have : (0 : Int) < (ji59.size : Int) := pD;omega);have hx63 : ∀ h : 0 < ji59.size,((ji59[0]'h).toNat : Int) = bt ji59 0 := bt_at ji59 0;clear p63;have qi63 : (0 < (ji59.size : Int)) = True := eq_true pD;replace q63 := eq_true q63;have p65 : 0 ≤ (0 : Int) := (by omega);have q65 : 0 < ji59.size := (by have : (0 : Int) < (ji59.size : Int) := pD;omega);have hx65 : ∀ h : 0 < ji59.size,((ji59[0]'h).toNat : Int) = bt ji59 0 := bt_at ji59 0;clear p65;have qi65 : (0 < (ji59.size : Int)) = True := eq_true pD;replace q65 := eq_true q65;go_wp2;go_meet
               case rel => exact ⟨_,(((bt (ji59) 0) == 45)),(by first | rfl | (simp;done) | (simp only [← hji59] <;> (first | rfl | simp)) | (simp [*];done)),H',⟨by have := HJ18.out;have := HJ48.out;first | omega | exact Nat.le_refl _⟩,⟨pK BK125.out⟩,⟨pK BK127.out⟩,⟨pB⟩⟩
             ·rw [if_neg c62] at H
              cases H
           case rest =>
            clear HC60;(try clear c1);(try clear c2);(try clear p2);(try clear c3);(try clear c3b0);(try clear c3b1);(try clear c4);(try clear c4b0);(try clear c4b1);(try clear c5);(try clear p5);(try clear q5);(try clear hx5);(try clear qi5);(try clear c6);(try clear c6b0);(try clear p6);(try clear q6);(try clear hx6);(try clear qi6);(try clear c7);(try clear c7b0);(try clear c9);(try clear c9b0);(try clear c9b1);(try clear c10);(try clear c15);(try clear c22);(try clear c23);(try clear c25);(try clear c26);(try clear c26b0);(try clear c26b1);(try clear c29);(try clear c29b0);(try clear c29b1);(try clear c30);(try clear c33);(try clear c33b0);(try clear c33b1);(try clear c34);(try clear c34b0);(try clear c34b1);(try clear c36);(try clear c36b0);(try clear c36b1);(try clear c36b2);(try clear c38);(try clear c38b0);(try clear c38b1);(try clear c39);(try clear c39b0);(try clear c45);(try clear c45b0);(try clear c45b1);(try clear c46);(try clear c50);(try clear c50b0);(try clear c50b1);(try clear p51);(try clear q51);(try clear hx51);(try clear qi51);(try clear c52);(try clear c52b0);(try clear c52b1);(try clear p53);(try clear q53);(try clear hx53);(try clear qi53);(try clear c54);(try clear c55);(try clear c58);(try clear c58b0);(try clear c58b1);(try clear c61);(try clear c61b0);(try clear c61b1);(try clear c62);(try clear c62b0);(try clear c62b1);(try clear p63);(try clear q63);(try clear hx63);(try clear qi63);(try clear c64);(try clear c64b0);(try clear c64b1);(try clear p64);(try clear p65);(try clear q65);(try clear hx65);(try clear qi65);(try clear q16 q17 q31 q32 q47 q48 q56 q57);(try clear p2);(try clear p5);(try clear p51);(try clear p53);(try clear p6);(try clear p63);(try clear p65);(try clear q5);(try clear q51);(try clear q53);(try clear q63);(try clear q65);obtain ⟨kq,x71_59,rfl,HA,HJ59,BK125,BK127,HB⟩ := hcut
            cases kq with
            | zero => exact absurd HA.out (by simp [dec_cut.j2])
            | succ kj59 =>
             have H := HA.out;clear HA;simp only [dec_cut.j2] at H;have HC66 := am H;clear H
             go_upto_if 71 with (fail)
             go_cut [6,8] (fun v6 v8 wc => ∃ (kq : Nat) (x6_65 : ByteArray) (x8_65 : Int),v6 = .string x6_65 ∧ v8 = .int .i64 x8_65 ∧ Aside0 (dec_cut.j3 kq x6_65 x8_65 x128000_18 x128001_18 = some (r1,r2,r3)) ∧ Aside0 (kq ≤ kj59) ∧ Aside0 (wc.heap[gb125]? = some (.cells #[.string x126000_18,.int .i64 x126001_18] 32 (0,0))) ∧ Aside0 (wc.heap[gb127]? = some (.cells #[.string x128000_18,.int .i64 x128001_18] 32 (0,0))) ∧ Aside0 (Below w.heap.size w wc))
             case first =>
              have H := HC66.out;clear HC66;by_cases c67 : x71_59 = true
              ·subst c67;rw [if_pos rfl] at H;by_cases c68 : 0 < (ji59.size : Int)
               ·rw [if_pos c68] at H;have c68b0 : decide (0 < (ji59.size : Int)) = true := decide_eq_true c68;have c68b1 : decide (0 < ji59.size) = true := decide_eq_true (by omega);clear c68;(first | rw [c68b0] | (simp only [i64_w,i32_w];rw [c68b0]) | rw [c68b1] | (simp only [i64_w,i32_w];rw [c68b1]) | skip);by_cases c70 : (bt ji59 0) = 45
                ·rw [if_pos c70] at H;have c70b0 : ((bt ji59 0) == 45) = true := beq_iff_eq.mpr c70;have c70b1 : ((bt ji59 0) != 45) = false := bne_eq_false_iff_eq.mpr c70;clear c70;by_cases c71 : 1 ≤ (ji59.size : Int)
                 ·rw [if_pos c71] at H;have c71b0 := eq_true c71;have c71b1 : decide (1 ≤ (ji59.size : Int)) = true := decide_eq_true c71;clear c71;obtain ⟨ji72,hji72⟩ : ∃ j_ : ByteArray,(ji59.extract 1 ji59.size) = j_ := ⟨_,rfl⟩;(replace H : (dec_cut.j3 kj59 ji72 (-1) x128000_18 x128001_18) = some (r1,r2,r3) := by first | (rw [hji72] at H;exact H) | (simp only [hji72] at H ⊢;exact H) | exact H);have H' := am H;clear H;have p69 : 0 ≤ (0 : Int) := (by omega);have q69 : 0 < ji59.size := (by have : (0 : Int) < (ji59.size : Int) := pD;omega);have hx69 : ∀ h : 0 < ji59.size,((ji59[0]'h).toNat : Int) = bt ji59 0 := bt_at ji59 0;clear p69;have qi69 : (0 < (ji59.size : Int)) = True := eq_true pD;replace q69 := eq_true q69;go_wp2;go_meet
                  case rel => exact ⟨_,(ji72),((-1)),(by first | rfl | (simp;done) | (simp only [← hji72] <;> (first | rfl | simp)) | (simp [*];done)),pS,H',⟨by have := HJ18.out;have := HJ48.out;have := HJ59.out;first | omega | exact Nat.le_refl _⟩,⟨pK BK125.out⟩,⟨pK BK127.out⟩,⟨pB⟩⟩
                 ·rw [if_neg c71] at H
                  cases H
                ·rw [if_neg c70] at H;have c70b0 : ((bt ji59 0) == 45) = false := beq_eq_false_iff_ne.mpr c70;have c70b1 : ((bt ji59 0) != 45) = true := bne_iff_ne.mpr c70;by_cases c73 : 1 ≤ (ji59.size : Int)
                 ·rw [if_pos c73] at H;have c73b0 := eq_true c73;have c73b1 : decide (1 ≤ (ji59.size : Int)) = true := decide_eq_true c73;clear c73;obtain ⟨ji74,hji74⟩ : ∃ j_ : ByteArray,(ji59.extract 1 ji59.size) = j_ := ⟨_,rfl⟩;(replace H : (dec_cut.j3 kj59 ji74 1 x128000_18 x128001_18) = some (r1,r2,r3) := by first | (rw [hji74] at H;exact H) | (simp only [hji74] at H ⊢;exact H) | exact H);have H' := am H;clear H;have p69 : 0 ≤ (0 : Int) := (by omega);have q69 : 0 < ji59.size := (by have : (0 : Int) < (ji59.size : Int) := pD;omega);have hx69 : ∀ h : 0 < ji59.size,((ji59[0]'h).toNat : Int) = bt ji59 0 := bt_at ji59 0;clear p69;have qi69 : (0 < (ji59.size : Int)) = True := eq_true pD;replace q69 := eq_true q69;go_wp2;go_meet
                  case rel => exact ⟨_,(ji74),(1),(by first | rfl | (simp;done) | (simp only [← hji74] <;> (first | rfl | simp)) | (simp [*];done)),pS,H',⟨by have := HJ18.out;have := HJ48.out;have := HJ59.out;first | omega | exact Nat.le_refl _⟩,⟨pK BK125.out⟩,⟨pK BK127.out⟩,⟨pB⟩⟩
                 ·rw [if_neg c73] at H
                  cases H
               ·rw [if_neg c68] at H
                cases H
              ·replace c67 := Bool.eq_false_iff.mpr c67;subst c67;rw [if_neg (show ¬ (false = true) by decide)] at H;have H' := am H;clear H;go_wp2;go_meet
               case rel => exact ⟨_,(ji59),(1),(by first | rfl | (simp;done) | (simp only [← hji59] <;> (first | rfl | simp)) | (simp [*];done)),pS,H',⟨by have := HJ18.out;have := HJ48.out;have := HJ59.out;first | omega | exact Nat.le_refl _⟩,⟨pK BK125.out⟩,⟨pK BK127.out⟩,⟨pB⟩⟩
             case rest =>
              clear HC66;(try clear c1);(try clear c2);(try clear p2);(try clear c3);(try clear c3b0);(try clear c3b1);(try clear c4);(try clear c4b0);(try clear c4b1);(try clear c5);(try clear p5);(try clear q5);(try clear hx5);(try clear qi5);(try clear c6);(try clear c6b0);(try clear p6);(try clear q6);(try clear hx6);(try clear qi6);(try clear c7);(try clear c7b0);(try clear c9);(try clear c9b0);(try clear c9b1);(try clear c10);(try clear c15);(try clear c22);(try clear c23);(try clear c25);(try clear c26);(try clear c26b0);(try clear c26b1);(try clear c29);(try clear c29b0);(try clear c29b1);(try clear c30);(try clear c33);(try clear c33b0);(try clear c33b1);(try clear c34);(try clear c34b0);(try clear c34b1);(try clear c36);(try clear c36b0);(try clear c36b1);(try clear c36b2);(try clear c38);(try clear c38b0);(try clear c38b1);(try clear c39);(try clear c39b0);(try clear c45);(try clear c45b0);(try clear c45b1);(try clear c46);(try clear c50);(try clear c50b0);(try clear c50b1);(try clear p51);(try clear q51);(try clear hx51);(try clear qi51);(try clear c52);(try clear c52b0);(try clear c52b1);(try clear p53);(try clear q53);(try clear hx53);(try clear qi53);(try clear c54);(try clear c55);(try clear c58);(try clear c58b0);(try clear c58b1);(try clear c61);(try clear c61b0);(try clear c61b1);(try clear c62);(try clear c62b0);(try clear c62b1);(try clear p63);(try clear q63);(try clear hx63);(try clear qi63);(try clear c64);(try clear c64b0);(try clear c64b1);(try clear p64);(try clear p65);(try clear q65);(try clear hx65);(try clear qi65);(try clear c67);(try clear c68);(try clear c68b0);(try clear c68b1);(try clear p69);(try clear q69);(try clear hx69);(try clear qi69);(try clear c70);(try clear c70b0);(try clear c70b1);(try clear c71);(try clear c71b0);(try clear c71b1);(try clear c73);(try clear c73b0);(try clear c73b1);(try clear q16 q17 q31 q32 q47 q48 q56 q57);(try clear p2);(try clear p5);(try clear p51);(try clear p53);(try clear p6);(try clear p63);(try clear p64);(try clear p65);(try clear p69);(try clear q5);(try clear q51);(try clear q53);(try clear q6);(try clear q63);(try clear q65);(try clear q69);obtain ⟨kq,x6_65,x8_65,rfl,rfl,HA,HJ65,BK125,BK127,HB⟩ := hcut
              cases kq with
              | zero => exact absurd HA.out (by simp [dec_cut.j3])
              | succ kj65 =>
               have H := HA.out;clear HA;simp only [dec_cut.j3] at H;have HC75 := am H;clear H;go_upto_region 20 with (fail)
               go_cut [85] (fun v85 wc => ∃ (kq : Nat) (x85_74 : Bool),v85 = .bool x85_74 ∧ Aside0 (dec_cut.j4 kq x6_65 x8_65 x85_74 x128000_18 x128001_18 = some (r1,r2,r3)) ∧ Aside0 (kq ≤ kj65) ∧ Aside0 (wc.heap[gb125]? = some (.cells #[.string x126000_18,.int .i64 x126001_18] 32 (0,0))) ∧ Aside0 (wc.heap[gb127]? = some (.cells #[.string x128000_18,.int .i64 x128001_18] 32 (0,0))) ∧ Aside0 (Below w.heap.size w wc))
               case first =>
                have H := HC75.out;clear HC75;by_cases c76 : x6_65.toList = ([] : List UInt8)
                ·rw [if_pos c76] at H;have c76b0 : (x6_65.toList == ([] : List UInt8)) = true := beq_iff_eq.mpr c76;have c76b1 : (x6_65.toList != ([] : List UInt8)) = false := bne_eq_false_iff_eq.mpr c76;clear c76;(first | rw [c76b0] | (simp only [i64_w,i32_w];rw [c76b0]) | rw [c76b1] | (simp only [i64_w,i32_w];rw [c76b1]) | skip);have H' := am H;clear H;go_wp2;go_meet
                 case rel => exact ⟨_,(true),pS,H',⟨by have := HJ18.out;have := HJ48.out;have := HJ59.out;have := HJ65.out;first | omega | exact Nat.le_refl _⟩,⟨pK BK125.out⟩,⟨pK BK127.out⟩,⟨pB⟩⟩
                ·rw [if_neg c76] at H;have c76b0 : (x6_65.toList == ([] : List UInt8)) = false := beq_eq_false_iff_ne.mpr c76;have c76b1 : (x6_65.toList != ([] : List UInt8)) = true := bne_iff_ne.mpr c76;(first | rw [c76b0] | (simp only [i64_w,i32_w];rw [c76b0]) | rw [c76b1] | (simp only [i64_w,i32_w];rw [c76b1]) | skip);obtain ⟨t130,A77,H⟩ := oB H;(try dsimp only at H);have H' := am H;clear H;(go_wp2_with (first | (go_at_call 22;(with_reducible refine (dec_digits.calls kj65 x6_65 t130 _ A77.out).mono ?_);rintro e w' ⟨rfl,⟨nd,rfl⟩⟩)));go_meet
                 case rel => exact ⟨_,((t130 != (x6_65.size : Int))),pS,H',⟨by have := HJ18.out;have := HJ48.out;have := HJ59.out;have := HJ65.out;first | omega | exact Nat.le_refl _⟩,⟨pK BK125.out⟩,⟨pK BK127.out⟩,⟨pB⟩⟩
               case rest =>
                clear HC75;(try clear c1);(try clear c2);(try clear p2);(try clear c3);(try clear c3b0);(try clear c3b1);(try clear c4);(try clear c4b0);(try clear c4b1);(try clear c5);(try clear p5);(try clear q5);(try clear hx5);(try clear qi5);(try clear c6);(try clear c6b0);(try clear p6);(try clear q6);(try clear hx6);(try clear qi6);(try clear c7);(try clear c7b0);(try clear c9);(try clear c9b0);(try clear c9b1);(try clear c10);(try clear c15);(try clear c22);(try clear c23);(try clear c25);(try clear c26);(try clear c26b0);(try clear c26b1);(try clear c29);(try clear c29b0);(try clear c29b1);(try clear c30);(try clear c33);(try clear c33b0);(try clear c33b1);(try clear c34);(try clear c34b0);(try clear c34b1);(try clear c36);(try clear c36b0);(try clear c36b1);(try clear c36b2);(try clear c38);(try clear c38b0);(try clear c38b1);(try clear c39);(try clear c39b0);(try clear c45);(try clear c45b0);(try clear c45b1);(try clear c46);(try clear c50);(try clear c50b0);(try clear c50b1);(try clear p51);(try clear q51);(try clear hx51);(try clear qi51);(try clear c52);(try clear c52b0);(try clear c52b1);(try clear p53);(try clear q53);(try clear hx53);(try clear qi53);(try clear c54);(try clear c55);(try clear c58);(try clear c58b0);(try clear c58b1);(try clear c61);(try clear c61b0);(try clear c61b1);(try clear c62);(try clear c62b0);(try clear c62b1);(try clear p63);(try clear q63);(try clear hx63);(try clear qi63);(try clear c64);(try clear c64b0);(try clear c64b1);(try clear p64);(try clear p65);(try clear q65);(try clear hx65);(try clear qi65);(try clear c67);(try clear c68);(try clear c68b0);(try clear c68b1);(try clear p69);(try clear q69);(try clear hx69);(try clear qi69);(try clear c70);(try clear c70b0);(try clear c70b1);(try clear c71);(try clear c71b0);(try clear c71b1);(try clear c73);(try clear c73b0);(try clear c73b1);(try clear c76);(try clear c76b0);(try clear c76b1);(try clear q16 q17 q31 q32 q47 q48 q56 q57);(try clear p2);(try clear p5);(try clear p51);(try clear p53);(try clear p6);(try clear p63);(try clear p64);(try clear p65);(try clear p69);(try clear q5);(try clear q51);(try clear q53);(try clear q6);(try clear q63);(try clear q65);(try clear q69);obtain ⟨kq,x85_74,rfl,HA,HJ74,BK125,BK127,HB⟩ := hcut
                cases kq with
                | zero => exact absurd HA.out (by simp [dec_cut.j4])
                | succ kj74 =>
                 have H := HA.out;clear HA;simp only [dec_cut.j4] at H;by_cases c78 : x85_74 = true
                 ·subst c78;rw [if_pos rfl] at H;simp only [Option.some.injEq,Prod.mk.injEq] at H;obtain ⟨rfl,rfl,rfl⟩ := H;have hnb79 := NB127_125.out;have hnc79 := NB125_127.out;have q80 := cf2 BK127.out;have q81 := cf2 BK125.out;go_wp2
                  refine bodyPost_ret (zYp rfl _ _ gb125 32 #[.string x128000_18,.int .i64 x128001_18] (0,0) _ rfl (by (with_reducible repeat (first | refine zQc ?_ _ | refine zQf ?_ | refine zQd ?_ _));refine zQC (cs := #[.string x128000_18,.int .i64 x126001_18]) ?_ 1 _ rfl;(with_reducible repeat (first | refine zQc ?_ _ | refine zQf ?_ | refine zQd ?_ _));refine zQC (cs := #[.string x126000_18,.int .i64 x126001_18]) ?_ 0 _ rfl;(with_reducible repeat (first | refine zQc ?_ _ | refine zQf ?_ | refine zQd ?_ _));exact BK125.out) Tryz.underlying32 rfl (by kernel_rfl)) rfl ?_
                  exact ⟨by first | rfl | (simp [zQy,zQx] <;> rfl) | (simp only [← hji5,← hji8,← hji59];first | rfl | (simp [zQy,zQx] <;> rfl)) | (simp [*,zQy,zQx] <;> rfl),pB⟩
                 ·replace c78 := Bool.eq_false_iff.mpr c78;subst c78;rw [if_neg (show ¬ (false = true) by decide)] at H;have H' := am H;clear H;go_wp2
                  go_loopg [9,89] kj74 (fun kq v9 v89 w' => ∃ (x9_6 : Int) (x89_6 : Int),v9 = .int .i64 x9_6 ∧ v89 = .int .i64 x89_6 ∧ Aside0 (dec_cut.l0 kq x6_65 x8_65 x9_6 (x6_65.size : Int) x89_6 x128000_18 x128001_18 = some (r1,r2,r3)) ∧ Aside0 (kq ≤ kj74) ∧ Aside0 (w'.heap[gb125]? = some (.cells #[.string x126000_18,.int .i64 x126001_18] 32 (0,0))) ∧ Aside0 (w'.heap[gb127]? = some (.cells #[.string x128000_18,.int .i64 x128001_18] 32 (0,0))) ∧ Aside0 (Below w.heap.size w w'))
                  case atStart => exact ⟨(0),(0),pS,pS,H',⟨Nat.le_refl _⟩,⟨pK BK125.out⟩,⟨pK BK127.out⟩,⟨pB⟩⟩
                  case round =>
                   clear H';(try clear c1);(try clear c2);(try clear p2);(try clear c3);(try clear c3b0);(try clear c3b1);(try clear c4);(try clear c4b0);(try clear c4b1);(try clear c5);(try clear p5);(try clear q5);(try clear hx5);(try clear qi5);(try clear c6);(try clear c6b0);(try clear p6);(try clear q6);(try clear hx6);(try clear qi6);(try clear c7);(try clear c7b0);(try clear c9);(try clear c9b0);(try clear c9b1);(try clear c10);(try clear c15);(try clear c22);(try clear c23);(try clear c25);(try clear c26);(try clear c26b0);(try clear c26b1);(try clear c29);(try clear c29b0);(try clear c29b1);(try clear c30);(try clear c33);(try clear c33b0);(try clear c33b1);(try clear c34);(try clear c34b0);(try clear c34b1);(try clear c36);(try clear c36b0);(try clear c36b1);(try clear c36b2);(try clear c38);(try clear c38b0);(try clear c38b1);(try clear c39);(try clear c39b0);(try clear c45);(try clear c45b0);(try clear c45b1);(try clear c46);(try clear c50);(try clear c50b0);(try clear c50b1);(try clear p51);(try clear q51);(try clear hx51);(try clear qi51);(try clear c52);(try clear c52b0);(try clear c52b1);(try clear p53);(try clear q53);(try clear hx53);(try clear qi53);(try clear c54);(try clear c55);(try clear c58);(try clear c58b0);(try clear c58b1);(try clear c61);(try clear c61b0);(try clear c61b1);(try clear c62);(try clear c62b0);(try clear c62b1);(try clear p63);(try clear q63);(try clear hx63);(try clear qi63);(try clear c64);(try clear c64b0);(try clear c64b1);(try clear p64);(try clear p65);(try clear q65);(try clear hx65);(try clear qi65);(try clear c67);(try clear c68);(try clear c68b0);(try clear c68b1);(try clear p69);(try clear q69);(try clear hx69);(try clear qi69);(try clear c70);(try clear c70b0);(try clear c70b1);(try clear c71);(try clear c71b0);(try clear c71b1);(try clear c73);(try clear c73b0);(try clear c73b1);(try clear c76);(try clear c76b0);(try clear c76b1);(try clear c78);(try clear c79);(try clear q16 q17 q31 q32 q47 q48 q56 q57 q80 q81);(try clear p2);(try clear p5);(try clear p51);(try clear p53);(try clear p6);(try clear p63);(try clear p64);(try clear p65);(try clear p69);(try clear q5);(try clear q51);(try clear q53);(try clear q6);(try clear q63);(try clear q65);(try clear q69);obtain ⟨x9_6,x89_6,rfl,rfl,HA,HK6,BK125,BK127,HB⟩ := hrel
                   cases gk with
                   | zero => exact absurd HA.out (by simp [dec_cut.l0])
                   | succ k6 =>
                    have H := HA.out;clear HA;simp only [dec_cut.l0] at H;by_cases c82 : x89_6 < (x6_65.size : Int)
                    ·rw [if_pos c82] at H;have c82b0 : decide (x89_6 < (x6_65.size : Int)) = true := decide_eq_true c82;clear c82;by_cases c83 : 0 ≤ x89_6
                     ·rw [if_pos c83] at H;have c83b0 : decide (0 ≤ x89_6) = true := decide_eq_true c83;clear c83;by_cases c84 : x89_6 < (x6_65.size : Int)
                      ·rw [if_pos c84] at H;have c84b0 : decide (x89_6 < (x6_65.size : Int)) = true := decide_eq_true c84;clear c84;obtain ⟨ji86,hji86⟩ : ∃ j_ : Int,(mn (wrap64 ((wrap64 (10 * x9_6)) + (((bt x6_65 x89_6) - 48) % 256))) 9999) = j_ := ⟨_,rfl⟩;(replace H : (dec_cut.l0 k6 x6_65 x8_65 ji86 (x6_65.size : Int) (wrap64 (x89_6 + 1)) x128000_18 x128001_18) = some (r1,r2,r3) := by first | (rw [hji86] at H;exact H) | (simp only [hji86] at H ⊢;exact H));have hji86_ : (if 9999 < (wrap64 ((wrap64 (10 * x9_6)) + (((bt x6_65 x89_6) - 48) % 256))) then 9999 else (wrap64 ((wrap64 (10 * x9_6)) + (((bt x6_65 x89_6) - 48) % 256)))) = ji86 := hji86;have H' := am H;clear H;have p85 : 0 ≤ (x89_6 : Int) := pD;have q85 : x89_6 < (x6_65.size : Int) := pD;have hx85 := bt_at x6_65 x89_6;replace p85 := eq_true p85;replace q85 := eq_true q85;go_wp2
                       go_roundg k6
                       case measure => have := HJ18.out;have := HJ48.out;have := HJ59.out;have := HJ65.out;have := HJ74.out;have := HK6.out;omega
                       case rel => exact ⟨(ji86),(wrap64 (x89_6 + 1)),(by first | rfl | (simp;done) | (simp only [← hji86] <;> (first | rfl | simp)) | (simp [*];done)),pS,H',⟨by have := HJ18.out;have := HJ48.out;have := HJ59.out;have := HJ65.out;have := HJ74.out;have := HK6.out;omega⟩,⟨pK BK125.out⟩,⟨pK BK127.out⟩,⟨pB⟩⟩
                      ·rw [if_neg c84] at H
                       cases H
                     ·rw [if_neg c83] at H
                      cases H
                    ·rw [if_neg c82] at H;have c82b0 : decide (x89_6 < (x6_65.size : Int)) = false := decide_eq_false c82;clear c82;simp only [Option.some.injEq,Prod.mk.injEq] at H;obtain ⟨rfl,rfl,rfl⟩ := H;have hnb87 := NB127_125.out;have hnc87 := NB125_127.out;have q88 := cf2 BK127.out;have q89 := cf2 BK125.out;go_wp2
                     refine bodyPost_ret (zYp rfl _ _ gb125 32 #[.string x128000_18,.int .i64 (wrap64 (x128001_18 + (wrap64 (x8_65 * x9_6))))] (0,0) _ rfl (by (with_reducible repeat (first | refine zQc ?_ _ | refine zQf ?_ | refine zQd ?_ _));refine zQC (cs := #[.string x128000_18,.int .i64 x126001_18]) ?_ 1 _ rfl;(with_reducible repeat (first | refine zQc ?_ _ | refine zQf ?_ | refine zQd ?_ _));refine zQC (cs := #[.string x126000_18,.int .i64 x126001_18]) ?_ 0 _ rfl;(with_reducible repeat (first | refine zQc ?_ _ | refine zQf ?_ | refine zQd ?_ _));refine zQN ?_ NB125_127.out _;(with_reducible repeat (first | refine zQc ?_ _ | refine zQf ?_ | refine zQd ?_ _));exact BK125.out) Tryz.underlying32 rfl (by kernel_rfl)) rfl ?_
                     exact ⟨by first | rfl | (simp [zQy,zQx] <;> rfl) | (simp only [← hji5,← hji8,← hji59];first | rfl | (simp [zQy,zQx] <;> rfl)) | (simp [*,zQy,zQx] <;> rfl),pB⟩
          ·rw [if_neg c58] at H
           cases H
  ·rw [if_neg c4] at H
   cases H
 ·rw [if_neg c3] at H
  cases H
end Go.Proofs.YtflcanpajgpghaaGreatDoor.Pr
end
section
namespace Go.Proofs.YtflcanpajgpghaaGreatDoor.Pr
open Go.RowKit Go.Proofs.YtflcanpajgpghaaGreatDoorW.PrintWords Go.Proofs.YtflcanpajgpghaaGreatDoorW.PrintLast Go.Proofs.YtflcanpajgpghaaGreatDoorW.PrintMore
attribute [local go_sem] zXe zXc zXn zXm zQV zQU zXd zXb
def b_times.l0 : Nat → Int → List Int → Int → List Int → Int → Int → Option (List Int)
 | 0,_,_,_,_,_,_ => none
 | k + 1,x1,x7,x8,x17,x18,x19 => if x19 < x18 then (if 0 ≤ x19 then (if x19 < (x17.length : Int) then (if x7.length < 35184372088832 then (b_times.l0 k x1 (x7 ++ [(IntKind.u64.wrap (x8 + (IntKind.u64.wrap ((IntKind.u64.wrap (rd x17 x19)) * (IntKind.u64.wrap (x1)))))) % 4294967296]) ((IntKind.u64.wrap (x8 + (IntKind.u64.wrap ((IntKind.u64.wrap (rd x17 x19)) * (IntKind.u64.wrap (x1)))))) / 4294967296) x17 x18 (wrap64 (x19 + 1))) else (none)) else (none)) else (none)) else (if x7.length < 35184372088832 then ((b_trim.f k (x7 ++ [(x8) % 4294967296])).bind fun t141 => (some t141)) else (none))
def b_times.f (k : Nat) (l0 : List Int) (a1 : Int) (a2 : Int) : Option (List Int) := if 0 ≤ wrap64 ((l0.length : Int) + 1) then (if (wrap64 ((l0.length : Int) + 1) : Int).toNat ≤ 70368744177664 then (b_times.l0 k a1 (List.replicate 0 0) (IntKind.u64.wrap (a2)) l0 (l0.length : Int) 0) else (none)) else (none)
theorem b_times.mono_l : ∀ k,(∀ y0 y1 y2 y3 y4 y5,LeO (b_times.l0 k y0 y1 y2 y3 y4 y5) (b_times.l0 (k + 1) y0 y1 y2 y3 y4 y5))
 | 0 => fun _ _ _ _ _ _ r h => by simp [b_times.l0] at h
 | k + 1 => by
  have ih0 := b_times.mono_l k
  ·intro y0 y1 y2 y3 y4 y5;unfold b_times.l0;repeat' first
   | (with_reducible exact ih0 _ _ _ _ _ _)
   | (with_reducible exact b_trim.mono _ _)
   | (with_reducible exact LeO.refl _)
   | (with_reducible exact LeO.none _)
   | (with_reducible refine LeO.ite ?_ ?_)
   | (with_reducible refine LeO.bind ?_ (fun _ => ?_))
   | exact ih0 _ _ _ _ _ _
   | exact b_trim.mono _ _
   | exact LeO.none _
   | refine LeO.ite ?_ ?_
   | refine LeO.bind ?_ (fun _ => ?_)
theorem b_times.mono : ∀ a0 a1 a2 k,LeO (b_times.f k a0 a1 a2) (b_times.f (k + 1) a0 a1 a2) := by
 intro a0 a1 a2 k;have ih0 := b_times.mono_l k;unfold b_times.f
 repeat' first
   | (with_reducible exact ih0 _ _ _ _ _ _)
   | (with_reducible exact b_trim.mono _ _)
   | (with_reducible exact LeO.refl _)
   | (with_reducible exact LeO.none _)
   | (with_reducible refine LeO.ite ?_ ?_)
   | (with_reducible refine LeO.bind ?_ (fun _ => ?_))
   | exact ih0 _ _ _ _ _ _
   | exact b_trim.mono _ _
   | exact LeO.none _
   | refine LeO.ite ?_ ?_
   | refine LeO.bind ?_ (fun _ => ?_)
set_option maxHeartbeats 8000000 in
set_option maxRecDepth 100000 in
theorem b_times.calls (k : Nat) (A0 : Option Addr) (c0 : Nat) (l0 : List Int) (a1 : Int) (a2 : Int) (r : List Int) (w : World) (hr0 : Kd.C (Kd.int .u32) w A0 l0.length l0) (hc0 : l0.length ≤ c0) (h : b_times.f k l0 a1 a2 = some r) :
  Calls Tryz.prog 24 #[.slice A0 l0.length c0,.int .u32 a1,.int .u32 a2] w fun e w' => ∃ v0_ : Value,e = .returned (v0_) ∧ Kd.V (Kd.int .u32) 52 w' w.heap.size (fun k_ => (w.heap.size ≤ k_)) v0_ r ∧ Below w.heap.size w w' := by
 have HR0 := am hr0;have HC0 := am hc0;clear hr0 hc0;have HB := am (Below.refl w.heap.size w);have H : (if 0 ≤ wrap64 ((l0.length : Int) + 1) then (if (wrap64 ((l0.length : Int) + 1) : Int).toNat ≤ 70368744177664 then (b_times.l0 k a1 (List.replicate 0 0) (IntKind.u64.wrap (a2)) l0 (l0.length : Int) 0) else (none)) else (none)) = some r := h;clear h;by_cases c4 : 0 ≤ wrap64 ((l0.length : Int) + 1)
 ·rw [if_pos c4] at H;have c4b0 := eq_true c4;have c4b1 : decide (0 ≤ wrap64 ((l0.length : Int) + 1)) = true := decide_eq_true c4;by_cases c5 : (wrap64 ((l0.length : Int) + 1) : Int).toNat ≤ 70368744177664
  ·rw [if_pos c5] at H;have c5b0 := eq_true c5;have c5b1 : decide ((wrap64 ((l0.length : Int) + 1) : Int).toNat ≤ 70368744177664) = true := decide_eq_true c5;obtain ⟨y131,hy131⟩ : ∃ y_ : List Int,y_ = (List.replicate 0 0) := ⟨_,rfl⟩;(replace H : (b_times.l0 k a1 y131 (IntKind.u64.wrap (a2)) l0 (l0.length : Int) 0) = some r := by first | (rw [hy131];with_reducible exact H) | (have H2_ := (Option.bind_some _ _).symm.trans H;rw [hy131];with_reducible exact H2_) | (have H2_ := (Option.bind_some _ _).symm.trans H;with_reducible exact H2_) | with_reducible exact H | (rw [hy131];exact H) | exact H);have Ny131 := am hy131;clear hy131;have H' := am H;clear H;go_enter Tryz.func24,Tryz.ntmps24;go_wp2_with (first | ((with_reducible refine zQE (N := 14) rfl ?_);refine zKw (Kd.int .u32) _ 52 rfl (N := 14) rfl 50 _ _ rfl 0 (wrap64 ((l0.length : Int) + 1)) rfl rfl Tryz.underlying50 (.int .u32 0) 4 zXV rfl (by decide) (by omega) 0 (ok := fun _ => True) (okp := fun _ => True) rfl (fun _ hk => hk) trivial (by omega) pD (Nat.le_trans (Nat.mul_le_mul_right _ (pD : (wrap64 ((l0.length : Int) + 1)).toNat ≤ 70368744177664)) (by omega)) (Below.refl _ _) (Nat.le_refl _) ?_;intro v132 w6 ho7 hb hg_ hnew_;clear hg_ hnew_;(first | rw [← Ny131.out] at ho7 | (simp only [Int.reduceToNat] at ho7;rw [← Ny131.out] at ho7));have HO133 := am (Kd.zQr (Kd.zXv (M := fun k_ => (w.heap.size ≤ k_)) ho7 (zQa pB) (fun k_ h_ => h_)) (zQa pB));replace HB := bS hb;clear hb ho7))
   go_loopg [7,8,19] k (fun kq v7 v8 v19 w' => ∃ (x7_1 : List Int) (x8_1 : Int) (x19_1 : Int),v8 = .int .u64 x8_1 ∧ v19 = .int .i64 x19_1 ∧ Aside0 (b_times.l0 kq a1 x7_1 x8_1 l0 (l0.length : Int) x19_1 = some r) ∧ Aside0 (kq ≤ k) ∧ Aside0 (Kd.R (Kd.int .u32) 52 w' w.heap.size (fun k_ => (w.heap.size ≤ k_)) v7 x7_1) ∧ Aside0 (Below w.heap.size w w'))
   case atStart => exact ⟨(y131),(IntKind.u64.wrap (a2)),(0),pS,pS,H',⟨Nat.le_refl _⟩,⟨by (with_reducible repeat (first | apply Kd.zQo | apply Kd.zQj | apply Kd.zQs));exact Kd.zQu HO133.out (fun _ hk => hk.1)⟩,⟨pB⟩⟩
   case round =>
    clear H';(try clear c2);(try clear p2);(try clear c4);(try clear c4b0);(try clear c4b1);(try clear c5);(try clear c5b0);(try clear c5b1);(try clear p6);obtain ⟨x7_1,x8_1,x19_1,rfl,rfl,HA,HK1,HO_7,HB⟩ := hrel
    cases gk with
    | zero => exact absurd HA.out (by simp [b_times.l0])
    | succ k1 =>
     have H := HA.out;clear HA;simp only [b_times.l0] at H;by_cases c8 : x19_1 < (l0.length : Int)
     ·rw [if_pos c8] at H;have c8b0 : decide (x19_1 < (l0.length : Int)) = true := decide_eq_true c8;clear c8;by_cases c9 : 0 ≤ x19_1
      ·rw [if_pos c9] at H;have c9b0 : decide (0 ≤ x19_1) = true := decide_eq_true c9;clear c9;by_cases c10 : x19_1 < (l0.length : Int)
       ·rw [if_pos c10] at H;have c10b0 : decide (x19_1 < (l0.length : Int)) = true := decide_eq_true c10;clear c10;by_cases c11 : x7_1.length < 35184372088832
        ·rw [if_pos c11] at H;have LMc11 := am c11;clear c11;obtain ⟨y135,hy135⟩ : ∃ y_ : List Int,y_ = (x7_1 ++ [(IntKind.u64.wrap (x8_1 + (IntKind.u64.wrap ((IntKind.u64.wrap (rd l0 x19_1)) * (IntKind.u64.wrap (a1)))))) % 4294967296]) := ⟨_,rfl⟩;(replace H : (b_times.l0 k1 a1 y135 ((IntKind.u64.wrap (x8_1 + (IntKind.u64.wrap ((IntKind.u64.wrap (rd l0 x19_1)) * (IntKind.u64.wrap (a1)))))) / 4294967296) l0 (l0.length : Int) (wrap64 (x19_1 + 1))) = some r := by first | (rw [hy135];with_reducible exact H) | (have H2_ := (Option.bind_some _ _).symm.trans H;rw [hy135];with_reducible exact H2_) | (have H2_ := (Option.bind_some _ _).symm.trans H;with_reducible exact H2_) | with_reducible exact H | (rw [hy135];exact H) | exact H);have Ny135 := am hy135;clear hy135;have H' := am H;clear H;have p134 : 0 ≤ (x19_1 : Int) := pD;have q134 : x19_1 < (l0.length : Int) := pD;obtain ⟨ad134,e134,hx134_0⟩ := Kd.zXg HR0.out x19_1 p134 q134
         cases e134
         replace hx134_0 := (HB.out.cell (World.block_lt_of_cell? w _ hx134_0)).trans hx134_0;replace p134 := eq_true p134;replace q134 := eq_true q134;go_wp2_with (first | ((with_reducible refine zQz (b := .append) (xs := #[.tmp 30,.tmp 33]) rfl ?_);at_builtin;refine Kd.zQW (Kd.int .u32) (w0 := w) w.heap.size rfl (.tmp 30) (.tmp 33) 50 52 (.int .u32 0) 4 rfl Tryz.underlying50 zXV rfl (by decide) (by omega) u7 x7_1 ((IntKind.u64.wrap (x8_1 + (IntKind.u64.wrap ((IntKind.u64.wrap (rd l0 x19_1)) * (IntKind.u64.wrap (a1)))))) % 4294967296) [.int .u32 ((IntKind.u64.wrap (x8_1 + (IntKind.u64.wrap ((IntKind.u64.wrap (rd l0 x19_1)) * (IntKind.u64.wrap (a1)))))) % 4294967296)] (fun k_ => (w.heap.size ≤ k_)) (fun _ => False) rfl rfl ?aP (fun _ hk => hk.elim) ?aF ?aO ?aB ?aS ?aL ?_;(case aP => exact rfl);(case aB => exact pB);(case aF => exact (fun k_ hk => (Nat.le_trans (zQa pB) hk)));(case aO => exact (pR HO_7.out));(case aS => exact (zQa pB));(case aL => have := LMc11.out;omega);intro v136 w12 ho hb hg hat;rw [← Ny135.out] at ho;replace HB := am (hb);have HO137 := am (ho);clear HO_7;clear ho hb hg hat))
         go_roundg k1
         case measure => have := HK1.out;omega
         case rel => exact ⟨(y135),((IntKind.u64.wrap (x8_1 + (IntKind.u64.wrap ((IntKind.u64.wrap (rd l0 x19_1)) * (IntKind.u64.wrap (a1)))))) / 4294967296),(wrap64 (x19_1 + 1)),pS,pS,H',⟨by have := HK1.out;omega⟩,⟨by (with_reducible repeat (first | apply Kd.zQo | apply Kd.zQj | apply Kd.zQs));exact HO137.out⟩,⟨pB⟩⟩
        ·rw [if_neg c11] at H
         cases H
       ·rw [if_neg c10] at H
        cases H
      ·rw [if_neg c9] at H
       cases H
     ·rw [if_neg c8] at H;have c8b0 : decide (x19_1 < (l0.length : Int)) = false := decide_eq_false c8;clear c8;by_cases c13 : x7_1.length < 35184372088832
      ·rw [if_pos c13] at H;have LMc13 := am c13;clear c13;obtain ⟨y138,hy138⟩ : ∃ y_ : List Int,y_ = (x7_1 ++ [(x8_1) % 4294967296]) := ⟨_,rfl⟩;(replace H : ((b_trim.f k1 y138).bind fun t141 => (some t141)) = some r := by first | (rw [hy138];with_reducible exact H) | (have H2_ := (Option.bind_some _ _).symm.trans H;rw [hy138];with_reducible exact H2_) | (have H2_ := (Option.bind_some _ _).symm.trans H;with_reducible exact H2_) | with_reducible exact H | (rw [hy138];exact H) | exact H);have Ny138 := am hy138;clear hy138;obtain ⟨t141,A14,H⟩ := oB H;(try dsimp only at H);obtain rfl := Option.some.inj H;go_wp2_with (first | ((with_reducible refine zQz (b := .append) (xs := #[.tmp 38,.tmp 41]) rfl ?_);at_builtin;refine Kd.zQW (Kd.int .u32) (w0 := w) w.heap.size rfl (.tmp 38) (.tmp 41) 50 52 (.int .u32 0) 4 rfl Tryz.underlying50 zXV rfl (by decide) (by omega) u7 x7_1 ((x8_1) % 4294967296) [.int .u32 ((x8_1) % 4294967296)] (fun k_ => (w.heap.size ≤ k_)) (fun _ => False) rfl rfl ?aP (fun _ hk => hk.elim) ?aF ?aO ?aB ?aS ?aL ?_;(case aP => exact rfl);(case aB => exact pB);(case aF => exact (fun k_ hk => (Nat.le_trans (zQa pB) hk)));(case aO => exact (pR HO_7.out));(case aS => exact (zQa pB));(case aL => have := LMc13.out;omega);intro v139 w15 ho hb hg hat;rw [← Ny138.out] at ho;replace HB := am (hb);have HO140 := am (ho);clear HO_7;clear ho hb hg hat;obtain ⟨Ao16,co16,eo16⟩ := Kd.zQv HO140.out;subst eo16) | ((with_reducible refine zQb (f := 57) rfl ?_);refine zQi (some 43) rfl rfl Tryz.func57 (by kernel_rfl) rfl #[.slice Ao16 y138.length co16] rfl pM ?_;(with_reducible refine (b_trim.calls k1 (fun k_ => some k_ = (.slice Ao16 y138.length co16 : Value).ownBlock) _ _ y138 t141 _ ?side1 A14.out).mono ?_);(case side1 => exact Kd.R_V (Kd.zXt rfl (HO140.out)));rintro e w17 ⟨v142,rfl,ho0,hb⟩;refine ⟨_,rfl,?_⟩;have HO143 := am (Kd.zQQ (Kd.zQh (ok' := fun k_ => (w.heap.size ≤ k_)) ho0 (fun k_ hk_ => Or.elim hk_ (fun hs_ => ((HO140.out).1 k_ hs_.symm)) (fun hn_ => (Nat.le_trans (zQa pB) hn_)))) (zQa pB));replace HO140 := am (Kd.zQw (pR HO140.out) hb);replace HB := bS hb;(try clear hb);(try clear ho0)))
       go_ret
       exact ⟨_,pE,by (with_reducible repeat (first | apply Kd.zQp | apply Kd.zQm | apply Kd.zQq));exact HO143.out,pB⟩
      ·rw [if_neg c13] at H
       cases H
  ·rw [if_neg c5] at H
   cases H
 ·rw [if_neg c4] at H
  cases H
def flo_shifted.f (a0 : Int) (a1 : Bool) (a2 : Int) : Option (Int) := if 0 ≤ a2 then (if a2 > 64 then (some 0) else (if 0 ≤ (wrap64 (a2 - 1)) then (if (Go.bits .and .u64 a0 (IntKind.u64.wrap ((shl .u64 1 a2) - 1))) > (shl .u64 1 (wrap64 (a2 - 1))) then (some (IntKind.u64.wrap ((shr .u64 a0 a2) + 1))) else (if (Go.bits .and .u64 a0 (IntKind.u64.wrap ((shl .u64 1 a2) - 1))) = (shl .u64 1 (wrap64 (a2 - 1))) then (if a1 = true then (some (IntKind.u64.wrap ((shr .u64 a0 a2) + 1))) else (if (Go.bits .and .u64 (shr .u64 a0 a2) 1) = 1 then (some (IntKind.u64.wrap ((shr .u64 a0 a2) + 1))) else (some (shr .u64 a0 a2)))) else (some (shr .u64 a0 a2)))) else (none))) else (none)
set_option maxHeartbeats 8000000 in
set_option maxRecDepth 100000 in
theorem flo_shifted.calls (a0 : Int) (a1 : Bool) (a2 : Int) (r : Int) (w : World) (h : flo_shifted.f a0 a1 a2 = some r) :
  Calls Tryz.prog 59 #[.int .u64 a0,.bool a1,.int .i64 a2] w fun e w' => e = .returned (.int .u64 r) ∧ Drawn0 w w' := by
 have H : (if 0 ≤ a2 then (if a2 > 64 then (some 0) else (if 0 ≤ (wrap64 (a2 - 1)) then (if (Go.bits .and .u64 a0 (IntKind.u64.wrap ((shl .u64 1 a2) - 1))) > (shl .u64 1 (wrap64 (a2 - 1))) then (some (IntKind.u64.wrap ((shr .u64 a0 a2) + 1))) else (if (Go.bits .and .u64 a0 (IntKind.u64.wrap ((shl .u64 1 a2) - 1))) = (shl .u64 1 (wrap64 (a2 - 1))) then (if a1 = true then (some (IntKind.u64.wrap ((shr .u64 a0 a2) + 1))) else (if (Go.bits .and .u64 (shr .u64 a0 a2) 1) = 1 then (some (IntKind.u64.wrap ((shr .u64 a0 a2) + 1))) else (some (shr .u64 a0 a2)))) else (some (shr .u64 a0 a2)))) else (none))) else (none)) = some r := h;clear h;by_cases c4 : 0 ≤ a2
 ·rw [if_pos c4] at H;have c4b0 := eq_true c4;have c4b1 : decide (0 ≤ a2) = true := decide_eq_true c4;clear c4;obtain ⟨ji5,hji5⟩ : ∃ j_ : Int,(shr .u64 a0 a2) = j_ := ⟨_,rfl⟩;(replace H : (if a2 > 64 then (some 0) else (if 0 ≤ (wrap64 (a2 - 1)) then (if (Go.bits .and .u64 a0 (IntKind.u64.wrap ((shl .u64 1 a2) - 1))) > (shl .u64 1 (wrap64 (a2 - 1))) then (some (IntKind.u64.wrap ((ji5) + 1))) else (if (Go.bits .and .u64 a0 (IntKind.u64.wrap ((shl .u64 1 a2) - 1))) = (shl .u64 1 (wrap64 (a2 - 1))) then (if a1 = true then (some (IntKind.u64.wrap ((ji5) + 1))) else (if (Go.bits .and .u64 (ji5) 1) = 1 then (some (IntKind.u64.wrap ((ji5) + 1))) else (some ji5))) else (some ji5))) else (none))) = some r := by first | (rw [hji5] at H;exact H) | (simp only [hji5] at H ⊢;exact H));have hji5_ : (a0 / 2 ^ min a2.toNat 64) = ji5 := hji5;have hji5z : a2 ≤ 64 → (a0 / 2 ^ a2.toNat) = ji5 := zWJ hji5;by_cases c6 : a2 > 64
  ·rw [if_pos c6] at H;have c6b0 : decide (64 < a2) = true := decide_eq_true c6;clear c6;obtain rfl := Option.some.inj H;go_enter Tryz.func59,Tryz.ntmps59;go_wp2;repeat (go_quiet (fail);try go_wp2)
   go_ret
   exact ⟨by first | rfl | (simp;done) | (simp only [← hji5] <;> (first | rfl | simp)) | (simp [*];done),pQ0⟩
  ·rw [if_neg c6] at H;have c6b0 : decide (64 < a2) = false := decide_eq_false c6;clear c6;have c7b0 := eq_true (pD : 0 ≤ a2);obtain ⟨ji8,hji8⟩ : ∃ j_ : Int,(shl .u64 1 a2) = j_ := ⟨_,rfl⟩;(replace H : (if 0 ≤ (wrap64 (a2 - 1)) then (if (Go.bits .and .u64 a0 (IntKind.u64.wrap ((ji8) - 1))) > (shl .u64 1 (wrap64 (a2 - 1))) then (some (IntKind.u64.wrap ((ji5) + 1))) else (if (Go.bits .and .u64 a0 (IntKind.u64.wrap ((ji8) - 1))) = (shl .u64 1 (wrap64 (a2 - 1))) then (if a1 = true then (some (IntKind.u64.wrap ((ji5) + 1))) else (if (Go.bits .and .u64 (ji5) 1) = 1 then (some (IntKind.u64.wrap ((ji5) + 1))) else (some ji5))) else (some ji5))) else (none)) = some r := by first | (rw [hji8] at H;exact H) | (simp only [hji8] at H ⊢;exact H));have hji8_ : (IntKind.u64.wrap (1 * 2 ^ min a2.toNat 64)) = ji8 := hji8;have hji8z : a2 ≤ 64 → (IntKind.u64.wrap (1 * 2 ^ a2.toNat)) = ji8 := zXU hji8;(have hji8u : (IntKind.u64.wrap (2 ^ min a2.toNat 64)) = ji8 := by have h_ := hji8_;rw [Int.one_mul] at h_;exact h_);(have hji8v : a2 ≤ 64 → (IntKind.u64.wrap (2 ^ a2.toNat)) = ji8 := fun hle_ => by have h_ := hji8z hle_;rw [Int.one_mul] at h_;exact h_);obtain ⟨ji9,hji9⟩ : ∃ j_ : Int,(wrap64 (a2 - 1)) = j_ := ⟨_,rfl⟩;(replace H : (if 0 ≤ (ji9) then (if (Go.bits .and .u64 a0 (IntKind.u64.wrap ((ji8) - 1))) > (shl .u64 1 (ji9)) then (some (IntKind.u64.wrap ((ji5) + 1))) else (if (Go.bits .and .u64 a0 (IntKind.u64.wrap ((ji8) - 1))) = (shl .u64 1 (ji9)) then (if a1 = true then (some (IntKind.u64.wrap ((ji5) + 1))) else (if (Go.bits .and .u64 (ji5) 1) = 1 then (some (IntKind.u64.wrap ((ji5) + 1))) else (some ji5))) else (some ji5))) else (none)) = some r := by first | (rw [hji9] at H;exact H) | (simp only [hji9] at H ⊢;exact H));have hji9w : (IntKind.i64.wrap (a2 - 1)) = ji9 := (i64_w _).trans hji9;by_cases c10 : 0 ≤ (ji9)
   ·rw [if_pos c10] at H;have c10b0 := eq_true c10;have c10b1 : decide (0 ≤ (ji9)) = true := decide_eq_true c10;clear c10;obtain ⟨ji11,hji11⟩ : ∃ j_ : Int,(shl .u64 1 (ji9)) = j_ := ⟨_,rfl⟩;(replace H : (if (Go.bits .and .u64 a0 (IntKind.u64.wrap ((ji8) - 1))) > (ji11) then (some (IntKind.u64.wrap ((ji5) + 1))) else (if (Go.bits .and .u64 a0 (IntKind.u64.wrap ((ji8) - 1))) = (ji11) then (if a1 = true then (some (IntKind.u64.wrap ((ji5) + 1))) else (if (Go.bits .and .u64 (ji5) 1) = 1 then (some (IntKind.u64.wrap ((ji5) + 1))) else (some ji5))) else (some ji5))) = some r := by first | (rw [hji11] at H;exact H) | (simp only [hji11] at H ⊢;exact H));have hji11_ : (IntKind.u64.wrap (1 * 2 ^ min (ji9).toNat 64)) = ji11 := hji11;have hji11z : (ji9) ≤ 64 → (IntKind.u64.wrap (1 * 2 ^ (ji9).toNat)) = ji11 := zXU hji11;(have hji11u : (IntKind.u64.wrap (2 ^ min (ji9).toNat 64)) = ji11 := by have h_ := hji11_;rw [Int.one_mul] at h_;exact h_);(have hji11v : (ji9) ≤ 64 → (IntKind.u64.wrap (2 ^ (ji9).toNat)) = ji11 := fun hle_ => by have h_ := hji11z hle_;rw [Int.one_mul] at h_;exact h_);by_cases c12 : (Go.bits .and .u64 a0 (IntKind.u64.wrap ((ji8) - 1))) > (ji11)
    ·rw [if_pos c12] at H;have c12b0 : decide ((ji11) < (Go.bits .and .u64 a0 (IntKind.u64.wrap ((ji8) - 1)))) = true := decide_eq_true c12;clear c12;obtain rfl := Option.some.inj H;go_enter Tryz.func59,Tryz.ntmps59;go_wp2;repeat (go_quiet (fail);try go_wp2)
     go_ret
     exact ⟨by first | rfl | (simp;done) | (simp only [← hji5,← hji8,← hji9,← hji11] <;> (first | rfl | simp)) | (simp [*];done),pQ0⟩
    ·rw [if_neg c12] at H;have c12b0 : decide ((ji11) < (Go.bits .and .u64 a0 (IntKind.u64.wrap ((ji8) - 1)))) = false := decide_eq_false c12;clear c12;by_cases c13 : (Go.bits .and .u64 a0 (IntKind.u64.wrap ((ji8) - 1))) = (ji11)
     ·rw [if_pos c13] at H;have c13b0 : ((Go.bits .and .u64 a0 (IntKind.u64.wrap ((ji8) - 1))) == (ji11)) = true := beq_iff_eq.mpr c13;have c13b1 : ((Go.bits .and .u64 a0 (IntKind.u64.wrap ((ji8) - 1))) != (ji11)) = false := bne_eq_false_iff_eq.mpr c13;clear c13;by_cases c14 : a1 = true
      ·subst c14;rw [if_pos rfl] at H;obtain rfl := Option.some.inj H;go_enter Tryz.func59,Tryz.ntmps59;go_wp2;repeat (go_quiet (fail);try go_wp2)
       go_ret
       exact ⟨by first | rfl | (simp;done) | (simp only [← hji5,← hji8,← hji9,← hji11] <;> (first | rfl | simp)) | (simp [*];done),pQ0⟩
      ·replace c14 := Bool.eq_false_iff.mpr c14;subst c14;rw [if_neg (show ¬ (false = true) by decide)] at H;by_cases c15 : (Go.bits .and .u64 (ji5) 1) = 1
       ·rw [if_pos c15] at H;have c15b0 : ((Go.bits .and .u64 (ji5) 1) == 1) = true := beq_iff_eq.mpr c15;have c15b1 : ((Go.bits .and .u64 (ji5) 1) != 1) = false := bne_eq_false_iff_eq.mpr c15;clear c15;obtain rfl := Option.some.inj H;go_enter Tryz.func59,Tryz.ntmps59;go_wp2;repeat (go_quiet (fail);try go_wp2)
        go_ret
        exact ⟨by first | rfl | (simp;done) | (simp only [← hji5,← hji8,← hji9,← hji11] <;> (first | rfl | simp)) | (simp [*];done),pQ0⟩
       ·rw [if_neg c15] at H;have c15b0 : ((Go.bits .and .u64 (ji5) 1) == 1) = false := beq_eq_false_iff_ne.mpr c15;have c15b1 : ((Go.bits .and .u64 (ji5) 1) != 1) = true := bne_iff_ne.mpr c15;obtain rfl := Option.some.inj H;go_enter Tryz.func59,Tryz.ntmps59;go_wp2;repeat (go_quiet (fail);try go_wp2)
        go_ret
        exact ⟨by first | rfl | (simp;done) | (simp only [← hji5,← hji8,← hji9,← hji11] <;> (first | rfl | simp)) | (simp [*];done),pQ0⟩
     ·rw [if_neg c13] at H;have c13b0 : ((Go.bits .and .u64 a0 (IntKind.u64.wrap ((ji8) - 1))) == (ji11)) = false := beq_eq_false_iff_ne.mpr c13;have c13b1 : ((Go.bits .and .u64 a0 (IntKind.u64.wrap ((ji8) - 1))) != (ji11)) = true := bne_iff_ne.mpr c13;obtain rfl := Option.some.inj H;go_enter Tryz.func59,Tryz.ntmps59;go_wp2;repeat (go_quiet (fail);try go_wp2)
      go_ret
      exact ⟨by first | rfl | (simp;done) | (simp only [← hji5,← hji8,← hji9,← hji11] <;> (first | rfl | simp)) | (simp [*];done),pQ0⟩
   ·rw [if_neg c10] at H
    cases H
 ·rw [if_neg c4] at H
  cases H
mutual
def flo_Make.j0 : Nat → Int → Int → Bool → Int → Option (Int)
 | 0,_,_,_,_ => none
 | k + 1,x1,x2,x3,x9 => if x2 = 0 then (if x3 = true then (flo_Make.j1 k ((mn (mx x1 (-1048576)) 1048576) - 1) 1 false x9) else (some x9)) else (flo_Make.j1 k (mn (mx x1 (-1048576)) 1048576) x2 x3 x9)
def flo_Make.j1 : Nat → Int → Int → Bool → Int → Option (Int)
 | 0,_,_,_,_ => none
 | k + 1,x1,x2,x3,x9 => (bits_Len64.f x2).bind fun t144 => (if (mx (wrap64 ((wrap64 (t144 - 52)) - 1)) (wrap64 ((-1074) - x1))) > 0 then ((flo_shifted.f x2 x3 (mx (wrap64 ((wrap64 (t144 - 52)) - 1)) (wrap64 ((-1074) - x1)))).bind fun t145 => (flo_Make.j2 k x1 t145 x9 (mx (wrap64 ((wrap64 (t144 - 52)) - 1)) (wrap64 ((-1074) - x1))))) else (if (mx (wrap64 ((wrap64 (t144 - 52)) - 1)) (wrap64 ((-1074) - x1))) = 0 then (if x3 = true then (flo_Make.j2 k x1 (IntKind.u64.wrap (x2 + (Go.bits .and .u64 x2 1))) x9 (mx (wrap64 ((wrap64 (t144 - 52)) - 1)) (wrap64 ((-1074) - x1)))) else (flo_Make.j2 k x1 x2 x9 (mx (wrap64 ((wrap64 (t144 - 52)) - 1)) (wrap64 ((-1074) - x1))))) else (if 0 ≤ (wrap64 (-(mx (wrap64 ((wrap64 (t144 - 52)) - 1)) (wrap64 ((-1074) - x1))))) then (if x3 = true then (if 0 ≤ (wrap64 ((wrap64 (-(mx (wrap64 ((wrap64 (t144 - 52)) - 1)) (wrap64 ((-1074) - x1))))) - 1)) then (flo_Make.j2 k x1 (Go.bits .or .u64 (shl .u64 x2 (wrap64 (-(mx (wrap64 ((wrap64 (t144 - 52)) - 1)) (wrap64 ((-1074) - x1)))))) (shl .u64 1 (wrap64 ((wrap64 (-(mx (wrap64 ((wrap64 (t144 - 52)) - 1)) (wrap64 ((-1074) - x1))))) - 1)))) x9 (mx (wrap64 ((wrap64 (t144 - 52)) - 1)) (wrap64 ((-1074) - x1)))) else (none)) else (flo_Make.j2 k x1 (shl .u64 x2 (wrap64 (-(mx (wrap64 ((wrap64 (t144 - 52)) - 1)) (wrap64 ((-1074) - x1)))))) x9 (mx (wrap64 ((wrap64 (t144 - 52)) - 1)) (wrap64 ((-1074) - x1))))) else (none))))
def flo_Make.j2 : Nat → Int → Int → Int → Int → Option (Int)
 | 0,_,_,_,_ => none
 | k + 1,x1,x2,x9,x10 => if x2 = 9007199254740992 then (flo_Make.j3 k (wrap64 ((wrap64 (x1 + x10)) + 1)) 4503599627370496 x9) else (flo_Make.j3 k (wrap64 (x1 + x10)) x2 x9)
def flo_Make.j3 : Nat → Int → Int → Int → Option (Int)
 | 0,_,_,_ => none
 | k + 1,x1,x2,x9 => if x2 = 0 then (some x9) else (if x1 > 971 then (some (Go.bits .or .u64 x9 9218868437227405312)) else (if x2 < 4503599627370496 then (some (Go.bits .or .u64 x9 x2)) else (some (Go.bits .or .u64 (Go.bits .or .u64 x9 (IntKind.u64.wrap ((IntKind.u64.wrap (wrap64 (x1 + 1075))) * 4503599627370496))) (Go.bits .and .u64 x2 4503599627370495)))))
end
def flo_Make.f (k : Nat) (a0 : Bool) (a1 : Int) (a2 : Int) (a3 : Bool) : Option (Int) := if a0 = true then (flo_Make.j0 k a1 a2 a3 9223372036854775808) else (flo_Make.j0 k a1 a2 a3 0)
theorem flo_Make.mono_l : ∀ k,(∀ y0 y1 y2 y3,LeO (flo_Make.j0 k y0 y1 y2 y3) (flo_Make.j0 (k + 1) y0 y1 y2 y3)) ∧ (∀ y0 y1 y2 y3,LeO (flo_Make.j1 k y0 y1 y2 y3) (flo_Make.j1 (k + 1) y0 y1 y2 y3)) ∧ (∀ y0 y1 y2 y3,LeO (flo_Make.j2 k y0 y1 y2 y3) (flo_Make.j2 (k + 1) y0 y1 y2 y3)) ∧ (∀ y0 y1 y2,LeO (flo_Make.j3 k y0 y1 y2) (flo_Make.j3 (k + 1) y0 y1 y2))
 | 0 => ⟨fun _ _ _ _ r h => by simp [flo_Make.j0] at h,fun _ _ _ _ r h => by simp [flo_Make.j1] at h,fun _ _ _ _ r h => by simp [flo_Make.j2] at h,fun _ _ _ r h => by simp [flo_Make.j3] at h⟩
 | k + 1 => by
  obtain ⟨ih0,ih1,ih2,ih3⟩ := flo_Make.mono_l k;refine ⟨?_,?_,?_,?_⟩
  all_goals intros
  all_goals first | unfold flo_Make.j0 | unfold flo_Make.j1 | unfold flo_Make.j2 | unfold flo_Make.j3
  all_goals repeat' first
   | (with_reducible exact ih0 _ _ _ _)
   | (with_reducible exact ih1 _ _ _ _)
   | (with_reducible exact ih2 _ _ _ _)
   | (with_reducible exact ih3 _ _ _)
   | (with_reducible exact LeO.refl _)
   | (with_reducible exact LeO.none _)
   | (with_reducible refine LeO.ite ?_ ?_)
   | (with_reducible refine LeO.bind ?_ (fun _ => ?_))
   | exact ih0 _ _ _ _
   | exact ih1 _ _ _ _
   | exact ih2 _ _ _ _
   | exact ih3 _ _ _
   | exact LeO.none _
   | refine LeO.ite ?_ ?_
   | refine LeO.bind ?_ (fun _ => ?_)
theorem flo_Make.mono : ∀ a0 a1 a2 a3 k,LeO (flo_Make.f k a0 a1 a2 a3) (flo_Make.f (k + 1) a0 a1 a2 a3) := by
 intro a0 a1 a2 a3 k;obtain ⟨ih0,ih1,ih2,ih3⟩ := flo_Make.mono_l k;unfold flo_Make.f
 repeat' first
   | (with_reducible exact ih0 _ _ _ _)
   | (with_reducible exact ih1 _ _ _ _)
   | (with_reducible exact ih2 _ _ _ _)
   | (with_reducible exact ih3 _ _ _)
   | (with_reducible exact LeO.refl _)
   | (with_reducible exact LeO.none _)
   | (with_reducible refine LeO.ite ?_ ?_)
   | (with_reducible refine LeO.bind ?_ (fun _ => ?_))
   | exact ih0 _ _ _ _
   | exact ih1 _ _ _ _
   | exact ih2 _ _ _ _
   | exact ih3 _ _ _
   | exact LeO.none _
   | refine LeO.ite ?_ ?_
   | refine LeO.bind ?_ (fun _ => ?_)
set_option maxHeartbeats 8000000 in
set_option maxRecDepth 100000 in
theorem flo_Make.calls (k : Nat) (a0 : Bool) (a1 : Int) (a2 : Int) (a3 : Bool) (r : Int) (w : World) (h : flo_Make.f k a0 a1 a2 a3 = some r) :
  Calls Tryz.prog 25 #[.bool a0,.int .i64 a1,.int .u64 a2,.bool a3] w fun e w' => e = .returned (.int .u64 r) ∧ Below w.heap.size w w' := by
 have HB := am (Below.refl w.heap.size w);have H : (if a0 = true then (flo_Make.j0 k a1 a2 a3 9223372036854775808) else (flo_Make.j0 k a1 a2 a3 0)) = some r := h;clear h;have HC5 := am H;clear H;go_enter Tryz.func25,Tryz.ntmps25
 go_upto_if 11 with (fail)
 go_cut [9] (fun v9 wc => ∃ (kq : Nat) (x9_4 : Int),v9 = .int .u64 x9_4 ∧ Aside0 (flo_Make.j0 kq a1 a2 a3 x9_4 = some r) ∧ Aside0 (kq ≤ k) ∧ Aside0 (Below w.heap.size w wc))
 case first =>
  have H := HC5.out;clear HC5;by_cases c6 : a0 = true
  ·subst c6;rw [if_pos rfl] at H;have H' := am H;clear H;go_wp2;go_meet
   case rel => exact ⟨_,(9223372036854775808),pS,H',⟨by first | omega | exact Nat.le_refl _⟩,⟨pB⟩⟩
  ·replace c6 := Bool.eq_false_iff.mpr c6;subst c6;rw [if_neg (show ¬ (false = true) by decide)] at H;have H' := am H;clear H;go_wp2;go_meet
   case rel => exact ⟨_,(0),pS,H',⟨by first | omega | exact Nat.le_refl _⟩,⟨pB⟩⟩
 case rest =>
  clear HC5;(try clear c2);(try clear p2);(try clear c6);obtain ⟨kq,x9_4,rfl,HA,HJ4,HB⟩ := hcut
  cases kq with
  | zero => exact absurd HA.out (by simp [flo_Make.j0])
  | succ kj4 =>
   have H := HA.out;clear HA;simp only [flo_Make.j0] at H;obtain ⟨ji7,hji7⟩ : ∃ j_ : Int,(mx a1 (-1048576)) = j_ := ⟨_,rfl⟩;(replace H : (if a2 = 0 then (if a3 = true then (flo_Make.j1 kj4 ((mn (ji7) 1048576) - 1) 1 false x9_4) else (some x9_4)) else (flo_Make.j1 kj4 (mn (ji7) 1048576) a2 a3 x9_4)) = some r := by first | (rw [hji7] at H;exact H) | (simp only [hji7] at H ⊢;exact H));have hji7_ : (if a1 < (-1048576) then (-1048576) else a1) = ji7 := hji7;obtain ⟨ji8,hji8⟩ : ∃ j_ : Int,(mn (ji7) 1048576) = j_ := ⟨_,rfl⟩;(replace H : (if a2 = 0 then (if a3 = true then (flo_Make.j1 kj4 ((ji8) - 1) 1 false x9_4) else (some x9_4)) else (flo_Make.j1 kj4 ji8 a2 a3 x9_4)) = some r := by first | (rw [hji8] at H;exact H) | (simp only [hji8] at H ⊢;exact H));have hji8_ : (if 1048576 < (ji7) then 1048576 else (ji7)) = ji8 := hji8;have HC9 := am H;clear H
   go_upto_if 16 with (fail)
   go_cut [1,2,3] (fun v1 v2 v3 wc => ∃ (kq : Nat) (x1_8 : Int) (x2_8 : Int) (x3_8 : Bool),v1 = .int .i64 x1_8 ∧ v2 = .int .u64 x2_8 ∧ v3 = .bool x3_8 ∧ Aside0 (flo_Make.j1 kq x1_8 x2_8 x3_8 x9_4 = some r) ∧ Aside0 (kq ≤ kj4) ∧ Aside0 (Below w.heap.size w wc))
   case first =>
    have H := HC9.out;clear HC9;by_cases c10 : a2 = 0
    ·rw [if_pos c10] at H;have c10b0 : (a2 == 0) = true := beq_iff_eq.mpr c10;have c10b1 : (a2 != 0) = false := bne_eq_false_iff_eq.mpr c10;clear c10;(first | rw [c10b0] | (simp only [i64_w,i32_w];rw [c10b0]) | rw [c10b1] | (simp only [i64_w,i32_w];rw [c10b1]) | skip);by_cases c11 : a3 = true
     ·subst c11;rw [if_pos rfl] at H;have H' := am H;clear H;go_wp2;go_meet
      case rel => exact ⟨_,((ji8) - 1),(1),(false),(by first | rfl | (simp;done) | (simp only [← hji8] <;> (first | rfl | simp)) | (simp [*];done)),pS,pS,H',⟨by have := HJ4.out;first | omega | exact Nat.le_refl _⟩,⟨pB⟩⟩
     ·replace c11 := Bool.eq_false_iff.mpr c11;subst c11;rw [if_neg (show ¬ (false = true) by decide)] at H;obtain rfl := Option.some.inj H;go_wp2
      go_ret
      exact ⟨by first | rfl | (simp [zQy,zQx] <;> rfl) | (simp only [← hji7,← hji8];first | rfl | (simp [zQy,zQx] <;> rfl)) | (simp [*,zQy,zQx] <;> rfl),pB⟩
    ·rw [if_neg c10] at H;have c10b0 : (a2 == 0) = false := beq_eq_false_iff_ne.mpr c10;have c10b1 : (a2 != 0) = true := bne_iff_ne.mpr c10;(first | rw [c10b0] | (simp only [i64_w,i32_w];rw [c10b0]) | rw [c10b1] | (simp only [i64_w,i32_w];rw [c10b1]) | skip);have H' := am H;clear H;go_wp2;go_meet
     case rel => exact ⟨_,(ji8),(a2),(a3),(by first | rfl | (simp;done) | (simp only [← hji8] <;> (first | rfl | simp)) | (simp [*];done)),pS,pS,H',⟨by have := HJ4.out;first | omega | exact Nat.le_refl _⟩,⟨pB⟩⟩
   case rest =>
    clear HC9;(try clear c1);(try clear c2);(try clear p2);(try clear c6);(try clear c10);(try clear c10b0);(try clear c10b1);(try clear c11);(try clear p2);obtain ⟨kq,x1_8,x2_8,x3_8,rfl,rfl,rfl,HA,HJ8,HB⟩ := hcut
    cases kq with
    | zero => exact absurd HA.out (by simp [flo_Make.j1])
    | succ kj8 =>
     have H := HA.out;clear HA;simp only [flo_Make.j1] at H;obtain ⟨t144,A12,H⟩ := oB H;(try dsimp only at H);obtain ⟨ji13,hji13⟩ : ∃ j_ : Int,(mx (wrap64 ((wrap64 (t144 - 52)) - 1)) (wrap64 ((-1074) - x1_8))) = j_ := ⟨_,rfl⟩;(replace H : (if (ji13) > 0 then ((flo_shifted.f x2_8 x3_8 (ji13)).bind fun t145 => (flo_Make.j2 kj8 x1_8 t145 x9_4 ji13)) else (if (ji13) = 0 then (if x3_8 = true then (flo_Make.j2 kj8 x1_8 (IntKind.u64.wrap (x2_8 + (Go.bits .and .u64 x2_8 1))) x9_4 ji13) else (flo_Make.j2 kj8 x1_8 x2_8 x9_4 ji13)) else (if 0 ≤ (wrap64 (-(ji13))) then (if x3_8 = true then (if 0 ≤ (wrap64 ((wrap64 (-(ji13))) - 1)) then (flo_Make.j2 kj8 x1_8 (Go.bits .or .u64 (shl .u64 x2_8 (wrap64 (-(ji13)))) (shl .u64 1 (wrap64 ((wrap64 (-(ji13))) - 1)))) x9_4 ji13) else (none)) else (flo_Make.j2 kj8 x1_8 (shl .u64 x2_8 (wrap64 (-(ji13)))) x9_4 ji13)) else (none)))) = some r := by first | (rw [hji13] at H;exact H) | (simp only [hji13] at H ⊢;exact H));(try rw [hji13] at A12);have hji13_ : (if (wrap64 ((wrap64 (t144 - 52)) - 1)) < (wrap64 ((-1074) - x1_8)) then (wrap64 ((-1074) - x1_8)) else (wrap64 ((wrap64 (t144 - 52)) - 1))) = ji13 := hji13;have HC14 := am H;clear H
     go_upto_block 0 with (first | ((with_reducible refine zQb (f := 58) rfl ?_);refine zQi (some 23) rfl rfl Tryz.func58 (by kernel_rfl) rfl #[.int .u64 x2_8] rfl pM ?_;(with_reducible refine (bits_Len64.calls x2_8 t144 _ A12.out).mono ?_);rintro e w' ⟨rfl,⟨nd,rfl⟩⟩;refine ⟨_,rfl,?_⟩))
     (try simp only [Act.put,List.setIfInBounds_toArray,List.set_cons_zero,List.set_cons_succ])
     go_cut [2] (fun v2 wc => ∃ (kq : Nat) (x2_13 : Int),v2 = .int .u64 x2_13 ∧ Aside0 (flo_Make.j2 kq x1_8 x2_13 x9_4 ji13 = some r) ∧ Aside0 (kq ≤ kj8) ∧ Aside0 (Below w.heap.size w wc))
     case first =>
      have H := HC14.out;clear HC14;by_cases c15 : (ji13) > 0
      ·rw [if_pos c15] at H;have c15b0 : decide (0 < (ji13)) = true := decide_eq_true c15;clear c15;(first | rw [c15b0] | (simp only [i64_w,i32_w];rw [c15b0]) | rw [c15b1] | (simp only [i64_w,i32_w];rw [c15b1]) | skip);obtain ⟨t145,A16,H⟩ := oB H;(try dsimp only at H);have H' := am H;clear H;(go_wp2_with (first | ((with_reducible refine zQb (f := 59) rfl ?_);refine zQi (some 46) rfl rfl Tryz.func59 (by kernel_rfl) rfl #[.int .u64 x2_8,.bool x3_8,.int .i64 ji13] rfl (by (try simp only [List.map_toArray,List.map_cons,List.map_nil]);first | done | (simp only [hji13];rfl) | rfl | (simp only [List.length_drop,List.length_take];rfl)) ?_;(with_reducible refine (flo_shifted.calls x2_8 x3_8 ji13 t145 _ A16.out).mono ?_);rintro e w' ⟨rfl,⟨nd,rfl⟩⟩;refine ⟨_,rfl,?_⟩)));go_meet
       case rel => exact ⟨_,(t145),pS,H',⟨by have := HJ4.out;have := HJ8.out;first | omega | exact Nat.le_refl _⟩,⟨pB⟩⟩
      ·rw [if_neg c15] at H;have c15b0 : decide (0 < (ji13)) = false := decide_eq_false c15;clear c15;(first | rw [c15b0] | (simp only [i64_w,i32_w];rw [c15b0]) | rw [c15b1] | (simp only [i64_w,i32_w];rw [c15b1]) | skip);by_cases c17 : (ji13) = 0
       ·rw [if_pos c17] at H;have c17b0 : ((ji13) == 0) = true := beq_iff_eq.mpr c17;have c17b1 : ((ji13) != 0) = false := bne_eq_false_iff_eq.mpr c17;clear c17;by_cases c18 : x3_8 = true
        ·subst c18;rw [if_pos rfl] at H;have H' := am H;clear H;go_wp2;go_meet
         case rel => exact ⟨_,(IntKind.u64.wrap (x2_8 + (Go.bits .and .u64 x2_8 1))),pS,H',⟨by have := HJ4.out;have := HJ8.out;first | omega | exact Nat.le_refl _⟩,⟨pB⟩⟩
        ·replace c18 := Bool.eq_false_iff.mpr c18;subst c18;rw [if_neg (show ¬ (false = true) by decide)] at H;have H' := am H;clear H;go_wp2;go_meet
         case rel => exact ⟨_,(x2_8),pS,H',⟨by have := HJ4.out;have := HJ8.out;first | omega | exact Nat.le_refl _⟩,⟨pB⟩⟩
       ·rw [if_neg c17] at H;have c17b0 : ((ji13) == 0) = false := beq_eq_false_iff_ne.mpr c17;have c17b1 : ((ji13) != 0) = true := bne_iff_ne.mpr c17;obtain ⟨ji19,hji19⟩ : ∃ j_ : Int,(wrap64 (-(ji13))) = j_ := ⟨_,rfl⟩;(replace H : (if 0 ≤ (ji19) then (if x3_8 = true then (if 0 ≤ (wrap64 ((ji19) - 1)) then (flo_Make.j2 kj8 x1_8 (Go.bits .or .u64 (shl .u64 x2_8 (ji19)) (shl .u64 1 (wrap64 ((ji19) - 1)))) x9_4 ji13) else (none)) else (flo_Make.j2 kj8 x1_8 (shl .u64 x2_8 (ji19)) x9_4 ji13)) else (none)) = some r := by first | (rw [hji19] at H;exact H) | (simp only [hji19] at H ⊢;exact H));have hji19w : (IntKind.i64.wrap (-(ji13))) = ji19 := (i64_w _).trans hji19;by_cases c20 : 0 ≤ (ji19)
        ·rw [if_pos c20] at H;have c20b0 := eq_true c20;have c20b1 : decide (0 ≤ (ji19)) = true := decide_eq_true c20;clear c20;obtain ⟨ji21,hji21⟩ : ∃ j_ : Int,(shl .u64 x2_8 (ji19)) = j_ := ⟨_,rfl⟩;(replace H : (if x3_8 = true then (if 0 ≤ (wrap64 ((ji19) - 1)) then (flo_Make.j2 kj8 x1_8 (Go.bits .or .u64 (ji21) (shl .u64 1 (wrap64 ((ji19) - 1)))) x9_4 ji13) else (none)) else (flo_Make.j2 kj8 x1_8 ji21 x9_4 ji13)) = some r := by first | (rw [hji21] at H;exact H) | (simp only [hji21] at H ⊢;exact H));have hji21_ : (IntKind.u64.wrap (x2_8 * 2 ^ min (ji19).toNat 64)) = ji21 := hji21;have hji21z : (ji19) ≤ 64 → (IntKind.u64.wrap (x2_8 * 2 ^ (ji19).toNat)) = ji21 := zXU hji21;by_cases c22 : x3_8 = true
         ·subst c22;rw [if_pos rfl] at H;obtain ⟨ji23,hji23⟩ : ∃ j_ : Int,(wrap64 ((ji19) - 1)) = j_ := ⟨_,rfl⟩;(replace H : (if 0 ≤ (ji23) then (flo_Make.j2 kj8 x1_8 (Go.bits .or .u64 (ji21) (shl .u64 1 (ji23))) x9_4 ji13) else (none)) = some r := by first | (rw [hji23] at H;exact H) | (simp only [hji23] at H ⊢;exact H));have hji23w : (IntKind.i64.wrap ((ji19) - 1)) = ji23 := (i64_w _).trans hji23;by_cases c24 : 0 ≤ (ji23)
          ·rw [if_pos c24] at H;have c24b0 := eq_true c24;have c24b1 : decide (0 ≤ (ji23)) = true := decide_eq_true c24;clear c24;obtain ⟨ji25,hji25⟩ : ∃ j_ : Int,(shl .u64 1 (ji23)) = j_ := ⟨_,rfl⟩;(replace H : (flo_Make.j2 kj8 x1_8 (Go.bits .or .u64 (ji21) (ji25)) x9_4 ji13) = some r := by first | (rw [hji25] at H;exact H) | (simp only [hji25] at H ⊢;exact H));have hji25_ : (IntKind.u64.wrap (1 * 2 ^ min (ji23).toNat 64)) = ji25 := hji25;have hji25z : (ji23) ≤ 64 → (IntKind.u64.wrap (1 * 2 ^ (ji23).toNat)) = ji25 := zXU hji25;(have hji25u : (IntKind.u64.wrap (2 ^ min (ji23).toNat 64)) = ji25 := by have h_ := hji25_;rw [Int.one_mul] at h_;exact h_);(have hji25v : (ji23) ≤ 64 → (IntKind.u64.wrap (2 ^ (ji23).toNat)) = ji25 := fun hle_ => by have h_ := hji25z hle_;rw [Int.one_mul] at h_;exact h_);have H' := am H;clear H;go_wp2;go_meet
           case rel => exact ⟨_,(Go.bits .or .u64 (ji21) (ji25)),(by first | rfl | (simp;done) | (simp only [← hji21,← hji25] <;> (first | rfl | simp)) | (simp [*];done)),H',⟨by have := HJ4.out;have := HJ8.out;first | omega | exact Nat.le_refl _⟩,⟨pB⟩⟩
          ·rw [if_neg c24] at H
           cases H
         ·replace c22 := Bool.eq_false_iff.mpr c22;subst c22;rw [if_neg (show ¬ (false = true) by decide)] at H;have H' := am H;clear H;go_wp2;go_meet
          case rel => exact ⟨_,(ji21),(by first | rfl | (simp;done) | (simp only [← hji21] <;> (first | rfl | simp)) | (simp [*];done)),H',⟨by have := HJ4.out;have := HJ8.out;first | omega | exact Nat.le_refl _⟩,⟨pB⟩⟩
        ·rw [if_neg c20] at H
         cases H
     case rest =>
      clear HC14;(try clear c1);(try clear c2);(try clear p2);(try clear c5);(try clear c6);(try clear p6);(try clear c10);(try clear c10b0);(try clear c10b1);(try clear c11);(try clear c15);(try clear c15b0);(try clear c15b1);(try clear c17);(try clear c17b0);(try clear c17b1);(try clear c18);(try clear c20);(try clear c20b0);(try clear c20b1);(try clear c22);(try clear c24);(try clear c24b0);(try clear c24b1);(try clear c25);(try clear p2);obtain ⟨kq,x2_13,rfl,HA,HJ13,HB⟩ := hcut
      cases kq with
      | zero => exact absurd HA.out (by simp [flo_Make.j2])
      | succ kj13 =>
       have H := HA.out;clear HA;simp only [flo_Make.j2] at H;have HC26 := am H;clear H
       go_upto_if 59 with (fail)
       go_cut [1,2] (fun v1 v2 wc => ∃ (kq : Nat) (x1_25 : Int) (x2_25 : Int),v1 = .int .i64 x1_25 ∧ v2 = .int .u64 x2_25 ∧ Aside0 (flo_Make.j3 kq x1_25 x2_25 x9_4 = some r) ∧ Aside0 (kq ≤ kj13) ∧ Aside0 (Below w.heap.size w wc))
       case first =>
        have H := HC26.out;clear HC26;by_cases c27 : x2_13 = 9007199254740992
        ·rw [if_pos c27] at H;have c27b0 : (x2_13 == 9007199254740992) = true := beq_iff_eq.mpr c27;have c27b1 : (x2_13 != 9007199254740992) = false := bne_eq_false_iff_eq.mpr c27;clear c27;(first | rw [c27b0] | (simp only [i64_w,i32_w];rw [c27b0]) | rw [c27b1] | (simp only [i64_w,i32_w];rw [c27b1]) | skip);have H' := am H;clear H;go_wp2;go_meet
         case rel => exact ⟨_,(wrap64 ((wrap64 (x1_8 + ji13)) + 1)),(4503599627370496),(by first | rfl | (simp;done) | (simp only [← hji13] <;> (first | rfl | simp)) | (simp [*];done)),pS,H',⟨by have := HJ4.out;have := HJ8.out;have := HJ13.out;first | omega | exact Nat.le_refl _⟩,⟨pB⟩⟩
        ·rw [if_neg c27] at H;have c27b0 : (x2_13 == 9007199254740992) = false := beq_eq_false_iff_ne.mpr c27;have c27b1 : (x2_13 != 9007199254740992) = true := bne_iff_ne.mpr c27;(first | rw [c27b0] | (simp only [i64_w,i32_w];rw [c27b0]) | rw [c27b1] | (simp only [i64_w,i32_w];rw [c27b1]) | skip);have H' := am H;clear H;go_wp2;go_meet
         case rel => exact ⟨_,(wrap64 (x1_8 + ji13)),(x2_13),(by first | rfl | (simp;done) | (simp only [← hji13] <;> (first | rfl | simp)) | (simp [*];done)),pS,H',⟨by have := HJ4.out;have := HJ8.out;have := HJ13.out;first | omega | exact Nat.le_refl _⟩,⟨pB⟩⟩
       case rest =>
        clear HC26;(try clear c1);(try clear c2);(try clear p2);(try clear c5);(try clear c6);(try clear p6);(try clear c10);(try clear c10b0);(try clear c10b1);(try clear c11);(try clear c15);(try clear c15b0);(try clear c15b1);(try clear c17);(try clear c17b0);(try clear c17b1);(try clear c18);(try clear c20);(try clear c20b0);(try clear c20b1);(try clear c22);(try clear c24);(try clear c24b0);(try clear c24b1);(try clear c25);(try clear c27);(try clear c27b0);(try clear c27b1);(try clear p2);(try clear p6);obtain ⟨kq,x1_25,x2_25,rfl,rfl,HA,HJ25,HB⟩ := hcut
        cases kq with
        | zero => exact absurd HA.out (by simp [flo_Make.j3])
        | succ kj25 =>
         have H := HA.out;clear HA;simp only [flo_Make.j3] at H;by_cases c28 : x2_25 = 0
         ·rw [if_pos c28] at H;have c28b0 : (x2_25 == 0) = true := beq_iff_eq.mpr c28;have c28b1 : (x2_25 != 0) = false := bne_eq_false_iff_eq.mpr c28;clear c28;obtain rfl := Option.some.inj H;go_wp2
          go_ret
          exact ⟨by first | rfl | (simp [zQy,zQx] <;> rfl) | (simp only [← hji7,← hji8,← hji13];first | rfl | (simp [zQy,zQx] <;> rfl)) | (simp [*,zQy,zQx] <;> rfl),pB⟩
         ·rw [if_neg c28] at H;have c28b0 : (x2_25 == 0) = false := beq_eq_false_iff_ne.mpr c28;have c28b1 : (x2_25 != 0) = true := bne_iff_ne.mpr c28;by_cases c29 : x1_25 > 971
          ·rw [if_pos c29] at H;have c29b0 : decide (971 < x1_25) = true := decide_eq_true c29;clear c29;obtain rfl := Option.some.inj H;go_wp2
           go_ret
           exact ⟨by first | rfl | (simp [zQy,zQx] <;> rfl) | (simp only [← hji7,← hji8,← hji13];first | rfl | (simp [zQy,zQx] <;> rfl)) | (simp [*,zQy,zQx] <;> rfl),pB⟩
          ·rw [if_neg c29] at H;have c29b0 : decide (971 < x1_25) = false := decide_eq_false c29;clear c29;by_cases c30 : x2_25 < 4503599627370496
           ·rw [if_pos c30] at H;have c30b0 : decide (x2_25 < 4503599627370496) = true := decide_eq_true c30;clear c30;obtain rfl := Option.some.inj H;go_wp2
            go_ret
            exact ⟨by first | rfl | (simp [zQy,zQx] <;> rfl) | (simp only [← hji7,← hji8,← hji13];first | rfl | (simp [zQy,zQx] <;> rfl)) | (simp [*,zQy,zQx] <;> rfl),pB⟩
           ·rw [if_neg c30] at H;have c30b0 : decide (x2_25 < 4503599627370496) = false := decide_eq_false c30;clear c30;obtain rfl := Option.some.inj H;go_wp2
            go_ret
            exact ⟨by first | rfl | (simp [zQy,zQx] <;> rfl) | (simp only [← hji7,← hji8,← hji13];first | rfl | (simp [zQy,zQx] <;> rfl)) | (simp [*,zQy,zQx] <;> rfl),pB⟩
end Go.Proofs.YtflcanpajgpghaaGreatDoor.Pr
end
section
namespace Go.Proofs.YtflcanpajgpghaaGreatDoor.Pr
open Go.RowKit Go.Proofs.YtflcanpajgpghaaGreatDoorW.PrintWords Go.Proofs.YtflcanpajgpghaaGreatDoorW.PrintLast Go.Proofs.YtflcanpajgpghaaGreatDoorW.PrintMore
attribute [local go_sem] zXe zXc zXn zXm zQV zQU zXd zXb
mutual
def b_tens.l0 : Nat → List Int → Int → Option (List Int)
 | 0,_,_ => none
 | k + 1,x0,x1 => if x1 ≥ 9 then ((b_times.f k x0 1000000000 0).bind fun t146 => (b_tens.l0 k t146 (wrap64 (x1 - 9)))) else (b_tens.l1 k x0 x1 0)
def b_tens.l1 : Nat → List Int → Int → Int → Option (List Int)
 | 0,_,_,_ => none
 | k + 1,x0,x11,x12 => if x12 < x11 then ((b_times.f k x0 10 0).bind fun t149 => (b_tens.l1 k t149 x11 (wrap64 (x12 + 1)))) else (some x0)
end
def b_tens.f (k : Nat) (l0 : List Int) (a1 : Int) : Option (List Int) := b_tens.l0 k l0 a1
theorem b_tens.mono_l : ∀ k,(∀ y0 y1,LeO (b_tens.l0 k y0 y1) (b_tens.l0 (k + 1) y0 y1)) ∧ (∀ y0 y1 y2,LeO (b_tens.l1 k y0 y1 y2) (b_tens.l1 (k + 1) y0 y1 y2))
 | 0 => ⟨fun _ _ r h => by simp [b_tens.l0] at h,fun _ _ _ r h => by simp [b_tens.l1] at h⟩
 | k + 1 => by
  obtain ⟨ih0,ih1⟩ := b_tens.mono_l k;refine ⟨?_,?_⟩
  all_goals intros
  all_goals first | unfold b_tens.l0 | unfold b_tens.l1
  all_goals repeat' first
   | (with_reducible exact ih0 _ _)
   | (with_reducible exact ih1 _ _ _)
   | (with_reducible exact b_times.mono _ _ _ _)
   | (with_reducible exact LeO.refl _)
   | (with_reducible exact LeO.none _)
   | (with_reducible refine LeO.ite ?_ ?_)
   | (with_reducible refine LeO.bind ?_ (fun _ => ?_))
   | exact ih0 _ _
   | exact ih1 _ _ _
   | exact b_times.mono _ _ _ _
   | exact LeO.none _
   | refine LeO.ite ?_ ?_
   | refine LeO.bind ?_ (fun _ => ?_)
theorem b_tens.mono : ∀ a0 a1 k,LeO (b_tens.f k a0 a1) (b_tens.f (k + 1) a0 a1) := by
 intro a0 a1 k;obtain ⟨ih0,ih1⟩ := b_tens.mono_l k;unfold b_tens.f
 repeat' first
   | (with_reducible exact ih0 _ _)
   | (with_reducible exact ih1 _ _ _)
   | (with_reducible exact b_times.mono _ _ _ _)
   | (with_reducible exact LeO.refl _)
   | (with_reducible exact LeO.none _)
   | (with_reducible refine LeO.ite ?_ ?_)
   | (with_reducible refine LeO.bind ?_ (fun _ => ?_))
   | exact ih0 _ _
   | exact ih1 _ _ _
   | exact b_times.mono _ _ _ _
   | exact LeO.none _
   | refine LeO.ite ?_ ?_
   | refine LeO.bind ?_ (fun _ => ?_)
set_option maxHeartbeats 8000000 in
set_option maxRecDepth 100000 in
theorem b_tens.calls (k : Nat) (P0_ : Nat → Prop) (A0 : Option Addr) (c0 : Nat) (l0 : List Int) (a1 : Int) (r : List Int) (w : World) (hs0 : Kd.V (Kd.int .u32) 52 w w.heap.size (fun k_ => P0_ k_) (.slice A0 l0.length c0) l0) (h : b_tens.f k l0 a1 = some r) :
  Calls Tryz.prog 26 #[.slice A0 l0.length c0,.int .i64 a1] w fun e w' => ∃ v0_ : Value,e = .returned (v0_) ∧ Kd.V (Kd.int .u32) 52 w' w.heap.size (fun k_ => (P0_ k_ ∨ w.heap.size ≤ k_)) v0_ r ∧ Below w.heap.size w w' := by
 have HO0 := am (show Kd.V (Kd.int .u32) 52 w w.heap.size (fun k_ => (P0_ k_ ∨ w.heap.size ≤ k_)) (.slice A0 l0.length c0) l0 from Kd.zQh hs0 (fun k_ hk => .inl hk));have HB := am (Below.refl w.heap.size w);have H : (b_tens.l0 k l0 a1) = some r := h;clear h;have H' := am H;clear H;go_enter Tryz.func26,Tryz.ntmps26;go_wp2
 go_loopg [0,1] k (fun kq v0 v1 w' => ∃ (x0_1 : List Int) (x1_1 : Int),v1 = .int .i64 x1_1 ∧ Aside0 (b_tens.l0 kq x0_1 x1_1 = some r) ∧ Aside0 (kq ≤ k) ∧ Aside0 (Kd.V (Kd.int .u32) 52 w' w.heap.size (fun k_ => (P0_ k_ ∨ w.heap.size ≤ k_)) v0 x0_1) ∧ Aside0 (Below w.heap.size w w'))
 case atStart => exact ⟨(l0),(a1),pS,H',⟨Nat.le_refl _⟩,⟨by (with_reducible repeat (first | apply Kd.zQp | apply Kd.zQm | apply Kd.zQq));exact HO0.out⟩,⟨pB⟩⟩
 case round =>
  clear H';(try clear c2);(try clear p2);obtain ⟨x0_1,x1_1,rfl,HA,HK1,HO_0,HB⟩ := hrel
  cases gk with
  | zero => exact absurd HA.out (by simp [b_tens.l0])
  | succ k1 =>
   have H := HA.out;clear HA;simp only [b_tens.l0] at H;by_cases c3 : x1_1 ≥ 9
   ·rw [if_pos c3] at H;have c3b0 : decide (9 ≤ x1_1) = true := decide_eq_true c3;clear c3;obtain ⟨t146,A4,H⟩ := oB H;(try dsimp only at H);have H' := am H;clear H;obtain ⟨Ao5,co5,eo5⟩ := Kd.zQA HO_0.out;subst eo5;go_wp2_with (first | ((with_reducible refine zQb (f := 24) rfl ?_);refine zQi (some 10) rfl rfl Tryz.func24 (by kernel_rfl) rfl #[.slice Ao5 x0_1.length co5,.int .u32 1000000000,.int .u32 0] rfl pM ?_;(with_reducible refine (b_times.calls k1 _ _ x0_1 1000000000 0 t146 _ ?side1 ?side2 A4.out).mono ?_);(case side1 => exact pC (Kd.zQg HO_0.out).2.2);(case side2 => exact (Kd.zQg HO_0.out).2.1);rintro e w6 ⟨v147,rfl,ho0,hb⟩;refine ⟨_,rfl,?_⟩;replace HO_0 := am (Kd.zQk (pV HO_0.out) hb);have HO148 := am (Kd.zQQ (Kd.zQh (ok' := fun k_ => (P0_ k_ ∨ w.heap.size ≤ k_)) ho0 (fun k_ hk_ => (.inr (Nat.le_trans (zQa pB) hk_)))) (zQa pB));replace HB := bS hb;(try clear hb);(try clear ho0)))
    go_roundg k1
    case measure => have := HK1.out;omega
    case rel => exact ⟨(t146),(wrap64 (x1_1 - 9)),pS,H',⟨by have := HK1.out;omega⟩,⟨by (with_reducible repeat (first | apply Kd.zQp | apply Kd.zQm | apply Kd.zQq));exact HO148.out⟩,⟨pB⟩⟩
   ·rw [if_neg c3] at H;have c3b0 : decide (9 ≤ x1_1) = false := decide_eq_false c3;clear c3;have H' := am H;clear H;go_wp2
    go_loopg [0,12] k1 (fun kq v0 v12 w' => ∃ (x0_2 : List Int) (x12_2 : Int),v12 = .int .i64 x12_2 ∧ Aside0 (b_tens.l1 kq x0_2 x1_1 x12_2 = some r) ∧ Aside0 (kq ≤ k1) ∧ Aside0 (Kd.V (Kd.int .u32) 52 w' w.heap.size (fun k_ => (P0_ k_ ∨ w.heap.size ≤ k_)) v0 x0_2) ∧ Aside0 (Below w.heap.size w w'))
    case atStart => exact ⟨(x0_1),(0),pS,H',⟨Nat.le_refl _⟩,⟨by (with_reducible repeat (first | apply Kd.zQp | apply Kd.zQm | apply Kd.zQq));exact HO_0.out⟩,⟨pB⟩⟩
    case round =>
     clear H';(try clear c2);(try clear p2);(try clear c3);(try clear c3b0);(try clear p6);(try clear p2);obtain ⟨x0_2,x12_2,rfl,HA,HK2,HO_0,HB⟩ := hrel
     cases gk with
     | zero => exact absurd HA.out (by simp [b_tens.l1])
     | succ k2 =>
      have H := HA.out;clear HA;simp only [b_tens.l1] at H;by_cases c7 : x12_2 < x1_1
      ·rw [if_pos c7] at H;have c7b0 : decide (x12_2 < x1_1) = true := decide_eq_true c7;clear c7;obtain ⟨t149,A8,H⟩ := oB H;(try dsimp only at H);have H' := am H;clear H;obtain ⟨Ao9,co9,eo9⟩ := Kd.zQA HO_0.out;subst eo9;go_wp2_with (first | ((with_reducible refine zQb (f := 24) rfl ?_);refine zQi (some 15) rfl rfl Tryz.func24 (by kernel_rfl) rfl #[.slice Ao9 x0_2.length co9,.int .u32 10,.int .u32 0] rfl pM ?_;(with_reducible refine (b_times.calls k2 _ _ x0_2 10 0 t149 _ ?side1 ?side2 A8.out).mono ?_);(case side1 => exact pC (Kd.zQg HO_0.out).2.2);(case side2 => exact (Kd.zQg HO_0.out).2.1);rintro e w10 ⟨v150,rfl,ho0,hb⟩;refine ⟨_,rfl,?_⟩;replace HO_0 := am (Kd.zQk (pV HO_0.out) hb);have HO151 := am (Kd.zQQ (Kd.zQh (ok' := fun k_ => (P0_ k_ ∨ w.heap.size ≤ k_)) ho0 (fun k_ hk_ => (.inr (Nat.le_trans (zQa pB) hk_)))) (zQa pB));replace HB := bS hb;(try clear hb);(try clear ho0)))
       go_roundg k2
       case measure => have := HK1.out;have := HK2.out;omega
       case rel => exact ⟨(t149),(wrap64 (x12_2 + 1)),pS,H',⟨by have := HK1.out;have := HK2.out;omega⟩,⟨by (with_reducible repeat (first | apply Kd.zQp | apply Kd.zQm | apply Kd.zQq));exact HO151.out⟩,⟨pB⟩⟩
      ·rw [if_neg c7] at H;have c7b0 : decide (x12_2 < x1_1) = false := decide_eq_false c7;clear c7;obtain rfl := Option.some.inj H;go_wp2
       go_ret
       exact ⟨_,pE,by (with_reducible repeat (first | apply Kd.zQp | apply Kd.zQm | apply Kd.zQq));exact HO_0.out,pB⟩
def b_len.f (l0 : List Int) : Option (Int) := if (l0.length : Int) = 0 then (some 0) else (if 0 ≤ (wrap64 ((l0.length : Int) - 1)) then (if (wrap64 ((l0.length : Int) - 1)) < (l0.length : Int) then ((bits_Len32.f (rd l0 (wrap64 ((l0.length : Int) - 1)))).bind fun t153 => (some (wrap64 ((wrap64 (32 * (wrap64 ((l0.length : Int) - 1)))) + t153)))) else (none)) else (none))
set_option maxHeartbeats 8000000 in
set_option maxRecDepth 100000 in
theorem b_len.calls (A0 : Option Addr) (c0 : Nat) (l0 : List Int) (r : Int) (w : World) (hr0 : Kd.C (Kd.int .u32) w A0 l0.length l0) (hc0 : l0.length ≤ c0) (h : b_len.f l0 = some r) :
  Calls Tryz.prog 27 #[.slice A0 l0.length c0] w fun e w' => e = .returned (.int .i64 r) ∧ Drawn0 w w' := by
 have HR0 := am hr0;have HC0 := am hc0;clear hr0 hc0;have H : (if (l0.length : Int) = 0 then (some 0) else (if 0 ≤ (wrap64 ((l0.length : Int) - 1)) then (if (wrap64 ((l0.length : Int) - 1)) < (l0.length : Int) then ((bits_Len32.f (rd l0 (wrap64 ((l0.length : Int) - 1)))).bind fun t153 => (some (wrap64 ((wrap64 (32 * (wrap64 ((l0.length : Int) - 1)))) + t153)))) else (none)) else (none))) = some r := h;clear h;by_cases c2 : (l0.length : Int) = 0
 ·rw [if_pos c2] at H;have c2b0 : ((l0.length : Int) == 0) = true := beq_iff_eq.mpr c2;have c2b1 : ((l0.length : Int) != 0) = false := bne_eq_false_iff_eq.mpr c2;clear c2;obtain rfl := Option.some.inj H;go_enter Tryz.func27,Tryz.ntmps27;go_wp2
  go_ret
  exact ⟨pS,pQ0⟩
 ·rw [if_neg c2] at H;have c2b0 : ((l0.length : Int) == 0) = false := beq_eq_false_iff_ne.mpr c2;have c2b1 : ((l0.length : Int) != 0) = true := bne_iff_ne.mpr c2;(have c2b2 : ¬ (l0 = []) := fun h_ => c2 (by rw [h_];rfl));obtain ⟨ji3,hji3⟩ : ∃ j_ : Int,(wrap64 ((l0.length : Int) - 1)) = j_ := ⟨_,rfl⟩;(replace H : (if 0 ≤ (ji3) then (if (ji3) < (l0.length : Int) then ((bits_Len32.f (rd l0 (ji3))).bind fun t153 => (some (wrap64 ((wrap64 (32 * (ji3))) + t153)))) else (none)) else (none)) = some r := by first | (rw [hji3] at H;exact H) | (simp only [hji3] at H ⊢;exact H));have hji3w : (IntKind.i64.wrap ((l0.length : Int) - 1)) = ji3 := (i64_w _).trans hji3;by_cases c4 : 0 ≤ (ji3)
  ·rw [if_pos c4] at H;have c4b0 : decide (0 ≤ (ji3)) = true := decide_eq_true c4;clear c4;by_cases c5 : (ji3) < (l0.length : Int)
   ·rw [if_pos c5] at H;have c5b0 : decide ((ji3) < (l0.length : Int)) = true := decide_eq_true c5;clear c5;obtain ⟨t153,A6,H⟩ := oB H;(try dsimp only at H);obtain rfl := Option.some.inj H;have p152 : 0 ≤ ((ji3) : Int) := pD;have q152 : (ji3) < (l0.length : Int) := pD;obtain ⟨ad152,e152,hx152_0⟩ := Kd.zXg HR0.out (ji3) p152 q152
    cases e152
    replace p152 := eq_true p152;replace q152 := eq_true q152;go_enter Tryz.func27,Tryz.ntmps27;go_wp2_with (first | ((with_reducible refine zQb (f := 60) rfl ?_);refine zQi (some 16) rfl rfl Tryz.func60 (by kernel_rfl) rfl #[.int .u32 (rd l0 (ji3))] rfl (by (try simp only [List.map_toArray,List.map_cons,List.map_nil]);first | done | (simp only [hji3];rfl) | rfl | (simp only [List.length_drop,List.length_take];rfl)) ?_;(with_reducible refine (bits_Len32.calls (rd l0 (ji3)) t153 _ A6.out).mono ?_);rintro e w' ⟨rfl,⟨nd,rfl⟩⟩;refine ⟨_,rfl,?_⟩))
    go_ret
    exact ⟨by first | rfl | (simp;done) | (simp only [← hji3] <;> (first | rfl | simp)) | (simp [*];done),pQ0⟩
   ·rw [if_neg c5] at H
    cases H
  ·rw [if_neg c4] at H
   cases H
def b_up.f (k : Nat) (l0 : List Int) (a1 : Int) : Option (List Int) := if 0 ≤ (wrap64 (Int.tdiv a1 32)) then (if wrap64 (Int.tdiv a1 32) ≤ wrap64 ((wrap64 ((wrap64 (Int.tdiv a1 32)) + (l0.length : Int))) + 1) then (if (wrap64 ((wrap64 ((wrap64 (Int.tdiv a1 32)) + (l0.length : Int))) + 1) : Int).toNat ≤ 70368744177664 then ((some (List.replicate (wrap64 (Int.tdiv a1 32) : Int).toNat 0 : List Int)).bind fun y154 => (if y154.length + l0.length < 35184372088832 then ((some (y154 ++ l0 : List Int)).bind fun y157 => (if (wrap64 (Int.tdiv a1 32)) ≤ (y157.length : Int) then (if 0 ≤ (Int.tmod a1 32) then ((b_times.f k (y157.drop ((wrap64 (Int.tdiv a1 32)) : Int).toNat) (shl .u32 1 (Int.tmod a1 32)) 0).bind fun t170 => ((slices_Concat.f (([(y157.take ((wrap64 (Int.tdiv a1 32)) : Int).toNat),t170] : List (List Int)))).bind fun t176 => (some t176))) else (none)) else (none))) else (none))) else (none)) else (none)) else (none)
theorem b_up.mono : ∀ a0 a1 k,LeO (b_up.f k a0 a1) (b_up.f (k + 1) a0 a1) := by
 intro a0 a1 k;unfold b_up.f
 repeat' first
   | (with_reducible exact b_times.mono _ _ _ _)
   | (with_reducible exact LeO.refl _)
   | (with_reducible exact LeO.none _)
   | (with_reducible refine LeO.ite ?_ ?_)
   | (with_reducible refine LeO.bind ?_ (fun _ => ?_))
   | exact b_times.mono _ _ _ _
   | exact LeO.none _
   | refine LeO.ite ?_ ?_
   | refine LeO.bind ?_ (fun _ => ?_)
def b_up.T3 : Bool × List (List Nat × List Nat) := (true,[([],[]),([],[]),([1],[1]),([0,2],[0,2]),([],[]),([],[]),([5],[5]),([4,6],[4,6]),([],[]),([8],[8]),([9],[9]),([7,10],[7,10]),([3,11],[3,11]),([12,11],[12]),([13,13,0,1,2,3,4,5,6,7,8,9,10,11,12,13],[13])])
def b_up.B3 : List Nat := [0,0,2,7,0,0,32,112,0,256,768,2032,4095,8191,16383]
theorem b_up.tab3 : rtab .any (opsOf Tryz.f28 3) = b_up.T3 := by kernel_rfl
theorem b_up.bits3 : zYa b_up.T3.2 b_up.B3 = true := by kernel_rfl
set_option maxHeartbeats 8000000 in
set_option maxRecDepth 100000 in
theorem b_up.calls (k : Nat) (A0 : Option Addr) (c0 : Nat) (l0 : List Int) (a1 : Int) (r : List Int) (w : World) (hr0 : Kd.C (Kd.int .u32) w A0 l0.length l0) (hc0 : l0.length ≤ c0) (h : b_up.f k l0 a1 = some r) :
  Calls Tryz.prog 28 #[.slice A0 l0.length c0,.int .i64 a1] w fun e w' => ∃ v0_ : Value,e = .returned (v0_) ∧ Kd.R (Kd.int .u32) 52 w' w.heap.size (fun _ => True) v0_ r ∧ Below w.heap.size w w' := by
 have HR0 := am hr0;have HC0 := am hc0;clear hr0 hc0;have HB := am (Below.refl w.heap.size w);have H : (if 0 ≤ (wrap64 (Int.tdiv a1 32)) then (if wrap64 (Int.tdiv a1 32) ≤ wrap64 ((wrap64 ((wrap64 (Int.tdiv a1 32)) + (l0.length : Int))) + 1) then (if (wrap64 ((wrap64 ((wrap64 (Int.tdiv a1 32)) + (l0.length : Int))) + 1) : Int).toNat ≤ 70368744177664 then ((some (List.replicate (wrap64 (Int.tdiv a1 32) : Int).toNat 0 : List Int)).bind fun y154 => (if y154.length + l0.length < 35184372088832 then ((some (y154 ++ l0 : List Int)).bind fun y157 => (if (wrap64 (Int.tdiv a1 32)) ≤ (y157.length : Int) then (if 0 ≤ (Int.tmod a1 32) then ((b_times.f k (y157.drop ((wrap64 (Int.tdiv a1 32)) : Int).toNat) (shl .u32 1 (Int.tmod a1 32)) 0).bind fun t170 => ((slices_Concat.f (([(y157.take ((wrap64 (Int.tdiv a1 32)) : Int).toNat),t170] : List (List Int)))).bind fun t176 => (some t176))) else (none)) else (none))) else (none))) else (none)) else (none)) else (none)) = some r := h;clear h;obtain ⟨ji3,hji3⟩ : ∃ j_ : Int,(wrap64 (Int.tdiv a1 32)) = j_ := ⟨_,rfl⟩;(replace H : (if 0 ≤ (ji3) then (if ji3 ≤ wrap64 ((wrap64 ((ji3) + (l0.length : Int))) + 1) then (if (wrap64 ((wrap64 ((ji3) + (l0.length : Int))) + 1) : Int).toNat ≤ 70368744177664 then ((some (List.replicate (ji3 : Int).toNat 0 : List Int)).bind fun y154 => (if y154.length + l0.length < 35184372088832 then ((some (y154 ++ l0 : List Int)).bind fun y157 => (if (ji3) ≤ (y157.length : Int) then (if 0 ≤ (Int.tmod a1 32) then ((b_times.f k (y157.drop ((ji3) : Int).toNat) (shl .u32 1 (Int.tmod a1 32)) 0).bind fun t170 => ((slices_Concat.f (([(y157.take ((ji3) : Int).toNat),t170] : List (List Int)))).bind fun t176 => (some t176))) else (none)) else (none))) else (none))) else (none)) else (none)) else (none)) = some r := by first | (rw [hji3] at H;exact H) | (simp only [hji3] at H ⊢;exact H));have hji3w : (IntKind.i64.wrap (Int.tdiv a1 32)) = ji3 := (i64_w _).trans hji3;by_cases c4 : 0 ≤ (ji3)
 ·rw [if_pos c4] at H;have c4b0 := eq_true c4;have c4b1 : decide (0 ≤ (ji3)) = true := decide_eq_true c4;clear c4;by_cases c5 : ji3 ≤ wrap64 ((wrap64 ((ji3) + (l0.length : Int))) + 1)
  ·rw [if_pos c5] at H;have c5b0 := eq_true c5;have c5b1 : decide (ji3 ≤ wrap64 ((wrap64 ((ji3) + (l0.length : Int))) + 1)) = true := decide_eq_true c5;by_cases c6 : (wrap64 ((wrap64 ((ji3) + (l0.length : Int))) + 1) : Int).toNat ≤ 70368744177664
   ·rw [if_pos c6] at H;have c6b0 := eq_true c6;have c6b1 : decide ((wrap64 ((wrap64 ((ji3) + (l0.length : Int))) + 1) : Int).toNat ≤ 70368744177664) = true := decide_eq_true c6;obtain ⟨y154,hy154⟩ : ∃ y_ : List Int,y_ = (List.replicate (ji3 : Int).toNat 0) := ⟨_,rfl⟩;(replace H : (if y154.length + l0.length < 35184372088832 then ((some (y154 ++ l0 : List Int)).bind fun y157 => (if (ji3) ≤ (y157.length : Int) then (if 0 ≤ (Int.tmod a1 32) then ((b_times.f k (y157.drop ((ji3) : Int).toNat) (shl .u32 1 (Int.tmod a1 32)) 0).bind fun t170 => ((slices_Concat.f (([(y157.take ((ji3) : Int).toNat),t170] : List (List Int)))).bind fun t176 => (some t176))) else (none)) else (none))) else (none)) = some r := by first | (rw [hy154];with_reducible exact H) | (have H2_ := (Option.bind_some _ _).symm.trans H;rw [hy154];with_reducible exact H2_) | (have H2_ := (Option.bind_some _ _).symm.trans H;with_reducible exact H2_) | with_reducible exact H | (rw [hy154];exact H) | exact H);have Ny154 := am hy154;clear hy154;by_cases c7 : y154.length + l0.length < 35184372088832
    ·rw [if_pos c7] at H;have LMc7 := am c7;clear c7;obtain ⟨y157,hy157⟩ : ∃ y_ : List Int,y_ = (y154 ++ l0) := ⟨_,rfl⟩;(replace H : (if (ji3) ≤ (y157.length : Int) then (if 0 ≤ (Int.tmod a1 32) then ((b_times.f k (y157.drop ((ji3) : Int).toNat) (shl .u32 1 (Int.tmod a1 32)) 0).bind fun t170 => ((slices_Concat.f (([(y157.take ((ji3) : Int).toNat),t170] : List (List Int)))).bind fun t176 => (some t176))) else (none)) else (none)) = some r := by first | (rw [hy157];with_reducible exact H) | (have H2_ := (Option.bind_some _ _).symm.trans H;rw [hy157];with_reducible exact H2_) | (have H2_ := (Option.bind_some _ _).symm.trans H;with_reducible exact H2_) | with_reducible exact H | (rw [hy157];exact H) | exact H);have Ny157 := am hy157;clear hy157;have c8b0 := eq_true (pD : 0 ≤ (ji3));by_cases c9 : (ji3) ≤ (y157.length : Int)
     ·rw [if_pos c9] at H;have c9b0 := eq_true c9;have c9b1 : decide ((ji3) ≤ (y157.length : Int)) = true := decide_eq_true c9;clear c9;obtain ⟨y160,hy160⟩ : ∃ y_ : List Int,y_ = (y157.take ((ji3) : Int).toNat) := ⟨_,rfl⟩;(replace H : (if 0 ≤ (Int.tmod a1 32) then ((b_times.f k (y157.drop ((ji3) : Int).toNat) (shl .u32 1 (Int.tmod a1 32)) 0).bind fun t170 => ((slices_Concat.f (([y160,t170] : List (List Int)))).bind fun t176 => (some t176))) else (none)) = some r := by first | (rw [hy160];with_reducible exact H) | (have H2_ := (Option.bind_some _ _).symm.trans H;rw [hy160];with_reducible exact H2_) | (have H2_ := (Option.bind_some _ _).symm.trans H;with_reducible exact H2_) | with_reducible exact H | (rw [hy160];exact H) | exact H);have Ny160 := am hy160;clear hy160;have c10b0 := eq_true (pD : 0 ≤ (ji3));have c11b0 := eq_true (pD : (ji3) ≤ (y157.length : Int));obtain ⟨y165,hy165⟩ : ∃ y_ : List Int,y_ = (y157.drop ((ji3) : Int).toNat) := ⟨_,rfl⟩;(replace H : (if 0 ≤ (Int.tmod a1 32) then ((b_times.f k y165 (shl .u32 1 (Int.tmod a1 32)) 0).bind fun t170 => ((slices_Concat.f (([y160,t170] : List (List Int)))).bind fun t176 => (some t176))) else (none)) = some r := by first | (rw [hy165];with_reducible exact H) | (have H2_ := (Option.bind_some _ _).symm.trans H;rw [hy165];with_reducible exact H2_) | (have H2_ := (Option.bind_some _ _).symm.trans H;with_reducible exact H2_) | with_reducible exact H | (rw [hy165];exact H) | exact H);have Ny165 := am hy165;clear hy165;obtain ⟨ji12,hji12⟩ : ∃ j_ : Int,(Int.tmod a1 32) = j_ := ⟨_,rfl⟩;(replace H : (if 0 ≤ (ji12) then ((b_times.f k y165 (shl .u32 1 (ji12)) 0).bind fun t170 => ((slices_Concat.f (([y160,t170] : List (List Int)))).bind fun t176 => (some t176))) else (none)) = some r := by first | (rw [hji12] at H;exact H) | (simp only [hji12] at H ⊢;exact H));by_cases c13 : 0 ≤ (ji12)
      ·rw [if_pos c13] at H;have c13b0 := eq_true c13;have c13b1 : decide (0 ≤ (ji12)) = true := decide_eq_true c13;clear c13;obtain ⟨ji14,hji14⟩ : ∃ j_ : Int,(shl .u32 1 (ji12)) = j_ := ⟨_,rfl⟩;(replace H : ((b_times.f k y165 (ji14) 0).bind fun t170 => ((slices_Concat.f (([y160,t170] : List (List Int)))).bind fun t176 => (some t176))) = some r := by first | (rw [hji14] at H;exact H) | (simp only [hji14] at H ⊢;exact H));have hji14_ : (IntKind.u32.wrap (1 * 2 ^ min (ji12).toNat 32)) = ji14 := hji14;have hji14z : (ji12) ≤ 32 → (IntKind.u32.wrap (1 * 2 ^ (ji12).toNat)) = ji14 := zXU hji14;(have hji14u : (IntKind.u32.wrap (2 ^ min (ji12).toNat 32)) = ji14 := by have h_ := hji14_;rw [Int.one_mul] at h_;exact h_);(have hji14v : (ji12) ≤ 32 → (IntKind.u32.wrap (2 ^ (ji12).toNat)) = ji14 := fun hle_ => by have h_ := hji14z hle_;rw [Int.one_mul] at h_;exact h_);obtain ⟨t170,A15,H⟩ := oB H;(try dsimp only at H);obtain ⟨y173,hy173⟩ : ∃ y_ : List (List Int),y_ = (([y160,t170] : List (List Int))) := ⟨_,rfl⟩;(replace H : ((slices_Concat.f y173).bind fun t176 => (some t176)) = some r := by first | (rw [hy173];with_reducible exact H) | (have H2_ := (Option.bind_some _ _).symm.trans H;rw [hy173];with_reducible exact H2_) | (have H2_ := (Option.bind_some _ _).symm.trans H;with_reducible exact H2_) | with_reducible exact H | (rw [hy173];exact H) | exact H);have Ny173 := am hy173;clear hy173;obtain ⟨t176,A16,H⟩ := oB H;(try dsimp only at H);obtain rfl := Option.some.inj H;go_enter Tryz.func28,Tryz.ntmps28;(try go_wp2_with (first | ((with_reducible refine zQE (N := 14) rfl ?_);refine zKw (Kd.int .u32) _ 52 rfl (N := 14) rfl 50 _ _ rfl ji3 (wrap64 ((wrap64 ((ji3) + (l0.length : Int))) + 1)) rfl rfl Tryz.underlying50 (.int .u32 0) 4 zXV rfl (by decide) (by omega) 0 (ok := fun _ => True) (okp := fun _ => True) rfl (fun _ hk => hk) trivial pD pD (Nat.le_trans (Nat.mul_le_mul_right _ (pD : (wrap64 ((wrap64 ((ji3) + (l0.length : Int))) + 1)).toNat ≤ 70368744177664)) (by omega)) (Below.refl _ _) (Nat.le_refl _) ?_;intro v155 w17 ho18 hb hg_ hnew_;clear hg_ hnew_;(first | rw [← Ny154.out] at ho18 | (simp only [Int.reduceToNat] at ho18;rw [← Ny154.out] at ho18));have HO156 := am (Kd.zQr ho18 (zQa pB));replace HB := bS hb;clear hb ho18) | ((with_reducible refine zQz (b := .append) (xs := #[.tmp 15,.tmp 16]) rfl ?_);at_builtin;refine Kd.zXG (Kd.int .u32) (w0 := w) w.heap.size rfl (.tmp 15) (.tmp 16) 50 52 (.int .u32 0) 4 rfl Tryz.underlying50 zXV rfl (by decide) (by omega) v155 y154 l0 _ _ _ (fun _ => True) (fun _ => False) rfl rfl ?aO ?aR (fun _ _ h => h) (fun _ h => h.elim) ?aF ?aB ?aS ?aL ?_;(case aR => exact pC (Kd.zQF HR0.out HB.out));(case aB => exact pB);(case aF => exact (fun _ _ => trivial));(case aO => exact (pR HO156.out));(case aS => exact (zQa pB));(case aL => have := LMc7.out;omega);intro v158 w19 ho hb hg hat;rw [← Ny157.out] at ho;replace HB := am (hb);have HO159 := am (ho);clear HO156;clear ho hb hg hat)));replace HO159 := am (Kd.zQs HO159.out);replace HB := am (zQO HB.out);obtain ⟨Ao22,co22,eo22⟩ := Kd.zQv HO159.out;(first | subst eo22 | (injection eo22 with f1_ f2_ f3_;have f4_ := f1_.symm;have f5_ := f3_.symm;clear f1_ f2_ f3_;subst f4_;subst f5_));have q21 : ((ji3) : Int) ≤ ((y157.length : Int) : Int) := pD;obtain ⟨i021,hi021,_,hsz21,_⟩ := info_parts zXV;have hroom21 : y157.length ≤ co22 := (Kd.zQe HO159.out).2.1;have hC21 : Kd.F (Kd.int .u32) _ _ Ao22 y157.length y157 := (Kd.V_at (base := w.heap.size) (Kd.R_V HO159.out)).2.2;have hcut21 := zGV (P := Tryz.prog) 50 52 .i64 Tryz.underlying50 hi021 Ao22 y157.length co22 (ji3) pD q21 hroom21;have hr21 := Kd.zGY (m := ((ji3) : Int).toNat) hC21 (by omega);have hy21 : y160.length = ((ji3) : Int).toNat := (by rw [Ny160.out,List.length_take];omega);rw [← Ny160.out] at hr21;rw [← hy21] at hcut21;have HO164 := am (show Kd.V (Kd.int .u32) 52 _ w.heap.size _ (.slice Ao22 y160.length co22) y160 from Kd.V_mk (by omega) hr21);have HC164 := am (show y160.length ≤ co22 from by omega);clear hr21 hC21 hroom21 hi021 hsz21;have KY21 := am hy21;clear hy21;replace q21 := eq_true q21;have q23 : ((ji3) : Int) ≤ ((y157.length : Int) : Int) := pD;obtain ⟨i023,hi023,_,hsz23,_⟩ := info_parts zXV;have hroom23 : y157.length ≤ co22 := (Kd.zQe HO159.out).2.1;have hC23 : Kd.F (Kd.int .u32) _ _ Ao22 y157.length y157 := (Kd.V_at (base := w.heap.size) (Kd.R_V HO159.out)).2.2;have q023 : (0 : Int) ≤ ((ji3) : Int) := pD;have hcut23 := zGw (P := Tryz.prog) 50 52 .i64 Tryz.underlying50 hi023 1 hsz23 Ao22 y157.length co22 (ji3) q023 q23;have hr23 := Kd.F_cut (m := ((ji3) : Int).toNat) (c := co22) hC23 (by omega) hroom23;obtain ⟨A23,hA23⟩ : ∃ A1,A1 = (if co22 = ((ji3) : Int).toNat then Ao22 else (Ao22 : Option Addr).map (·.add (((ji3) : Int).toNat * 1))) := ⟨_,rfl⟩;obtain ⟨c23,hc23⟩ : ∃ c1,c1 = co22 - ((ji3) : Int).toNat := ⟨_,rfl⟩;have hy23 : y165.length = y157.length - ((ji3) : Int).toNat := (by rw [Ny165.out,List.length_drop] <;> omega);rw [show (y157).drop ((ji3) : Int).toNat = y165 from Ny165.out.symm] at hr23;replace hr23 : Kd.F (Kd.int .u32) _ _ A23 y165.length y165 := (by rw [hA23];exact hr23);rw [← hy23,← hA23,← hc23] at hcut23;have HO169 := am (show Kd.V (Kd.int .u32) 52 _ w.heap.size _ (.slice A23 y165.length c23) y165 from Kd.V_mk (by rw [hy23,hc23];exact Nat.sub_le_sub_right hroom23 _) hr23);have HC169 := am (show y165.length ≤ c23 from by rw [hy23,hc23];exact Nat.sub_le_sub_right hroom23 _);clear hr23 hC23 hroom23 hi023 hsz23 hc23;have KY23 := am hy23;have KA23 := am hA23;clear hy23 hA23;replace q23 := eq_true q23;refine zYR (n := 15) (S := fun w' => True) (ds := []) (bm 15 0) (by kernel_rfl) rfl rfl trivial (fun hHeld => ?_);refine zXI b_up.tab3 b_up.bits3 (fun HT_ HW_ => ?_);generalize w19.drew = w20 at HO159 HB HO164 HO169 hHeld ⊢
       refine pure_ (i := 0) (N := some 18) (v := ?_) (a' := ?_) (bm 15 1) rfl rfl (zQB HT_.out (by kernel_rfl)) (fun _ _ _ h => h) (Or.inl ⟨by kernel_rfl,?_⟩) ?_ ?_
       rotate_left
       ·intro w';go_simp;with_reducible rfl
       rotate_left
       ·exact pA
       refine pure_ (i := 1) (N := some 19) (v := ?_) (a' := ?_) (bm 15 3) rfl rfl (zQB HT_.out (by kernel_rfl)) (fun _ _ _ h => h) (Or.inl ⟨by kernel_rfl,?_⟩) ?_ ?_
       rotate_left
       ·intro w';go_simp;with_reducible rfl
       rotate_left
       ·exact pA
       refine pure_ (i := 2) (N := some 20) (v := ?_) (a' := ?_) (bm 15 7) rfl rfl (zQB HT_.out (by kernel_rfl)) (fun _ _ _ h => h) (Or.inl ⟨by kernel_rfl,?_⟩) ?_ ?_
       rotate_left
       ·intro w';go_simp;with_reducible rfl
       rotate_left
       ·exact pA
       refine pure_ (i := 3) (N := some 21) (v := ?_) (a' := ?_) (bm 15 15) rfl rfl (zQB HT_.out (by kernel_rfl)) (fun _ _ _ h => h) (Or.inl ⟨by kernel_rfl,?_⟩) ?_ ?_
       rotate_left
       ·intro w';go_simp;with_reducible rfl
       rotate_left
       ·exact pA
       refine pure_ (i := 4) (N := some 22) (v := ?_) (a' := ?_) (bm 15 31) rfl rfl (zQB HT_.out (by kernel_rfl)) (fun _ _ _ h => h) (Or.inl ⟨by kernel_rfl,?_⟩) ?_ ?_
       rotate_left
       ·intro w';go_simp;with_reducible rfl
       rotate_left
       ·exact pA
       refine pure_ (i := 5) (N := some 23) (v := ?_) (a' := ?_) (bm 15 63) rfl rfl (zQB HT_.out (by kernel_rfl)) (fun _ _ _ h => h) (Or.inl ⟨by kernel_rfl,?_⟩) ?_ ?_
       rotate_left
       ·intro w';go_simp;with_reducible rfl
       rotate_left
       ·exact pA
       refine pure_ (i := 6) (N := some 24) (v := ?_) (a' := ?_) (bm 15 127) rfl rfl (zQB HT_.out (by kernel_rfl)) (fun _ _ _ h => h) (Or.inl ⟨by kernel_rfl,?_⟩) ?_ ?_
       rotate_left
       ·intro w';go_simp;with_reducible rfl
       rotate_left
       ·exact pA
       refine pure_ (i := 7) (N := some 25) (v := ?_) (a' := ?_) (bm 15 255) rfl rfl (zQB HT_.out (by kernel_rfl)) (fun _ _ _ h => h) (Or.inl ⟨by kernel_rfl,?_⟩) ?_ ?_
       rotate_left
       ·intro w';go_simp;with_reducible rfl
       rotate_left
       ·exact pA
       refine pure_ (i := 8) (N := some 26) (v := ?_) (a' := ?_) (bm 15 511) rfl rfl (zQB HT_.out (by kernel_rfl)) (fun _ _ _ h => h) (Or.inl ⟨by kernel_rfl,?_⟩) ?_ ?_
       rotate_left
       ·intro w';go_simp;with_reducible rfl
       rotate_left
       ·exact pA
       refine pure_ (i := 9) (N := some 27) (v := ?_) (a' := ?_) (bm 15 1023) rfl rfl (zQB HT_.out (by kernel_rfl)) (fun _ _ _ h => h) (Or.inl ⟨by kernel_rfl,?_⟩) ?_ ?_
       rotate_left
       ·intro w';go_simp;with_reducible rfl
       rotate_left
       ·exact pA
       refine pure_ (i := 10) (N := some 28) (v := ?_) (a' := ?_) (bm 15 2047) rfl rfl (zQB HT_.out (by kernel_rfl)) (fun _ _ _ h => h) (Or.inl ⟨by kernel_rfl,?_⟩) ?_ ?_
       rotate_left
       ·intro w';go_simp;with_reducible rfl
       rotate_left
       ·exact pA
       refine one_ (i := 11) (N := some 29) (bm 15 4095) rfl rfl (zXa HT_.out (by kernel_rfl)) (by decide) (fun K hK => ?_)
       refine goes_ Tryz.func24 (by kernel_rfl) rfl #[.slice A23 y165.length c23,.int .u32 ji14,.int .u32 0] (by rfl) rfl rfl (by (try simp only [List.map_toArray,List.map_cons,List.map_nil]);first | done | (simp only [hji14];rfl) | rfl | (simp only [List.length_drop,List.length_take];rfl)) ?_
       with_reducible refine (b_times.calls k _ _ y165 ji14 0 t170 _ ?side1 ?side2 A15.out).mono ?_
       (case side1 => exact pC (Kd.zQg HO169.out).2.2);(case side2 => exact (Kd.zQg HO169.out).2.1);rintro e w24 ⟨v171,rfl,ho0,hb⟩;refine ⟨_,rfl,?_⟩;have n0_ := am (Kd.zQw (pR HO159.out) hb);have n1_ := am (Kd.zQk (pV HO164.out) hb);have n2_ := am (Kd.zQk (pV HO169.out) hb);have n3_ := am (Kd.zQQ (Kd.zQh (ok' := fun k_ => some k_ ≠ (.slice Ao22 y157.length co22 : Value).ownBlock) ho0 (fun k_ hk_ => (Kd.fresh' (Kd.R_lt (pR HO159.out)) k_ hk_))) (zQa pB));have n4_ := bS hb;clear HO159 HO164 HO169 HB;have HO159 := n0_;have HO164 := n1_;have HO169 := n2_;have HO172 := n3_;have HB := n4_;clear n0_ n1_ n2_ n3_ n4_;(try clear hb);(try clear ho0);obtain ⟨Ao25,co25,eo25⟩ := Kd.zQA HO172.out;(first | subst eo25 | (injection eo25 with f1_ f2_ f3_;have f4_ := f1_.symm;have f5_ := f3_.symm;clear f1_ f2_ f3_;subst f4_;subst f5_));refine hK.out _ _ trivial (fun hHeld => ?_);clear hK K
       refine norm_ (a' := ?_) ?_ ?_
       rotate_left
       ·show Act.put _ (some 29) _ = _
        exact pA
       refine one_ (i := 12) (N := some 30) (bm 15 8191) rfl rfl (zXa HT_.out (by kernel_rfl)) (by decide) (fun K hK => ?_);refine Kd.zBJ (Kd.slice 52 (Kd.int .u32)) _ 50 ?hg (N' := 30) ?hd (xs := ([y160,t170] : List (List Int))) (inner := [.slice Ao22 y160.length co22,.slice Ao25 t170.length co25]) (ok := (fun _ => True)) (okp := (fun _ => True)) ?hr ?hp (fun _ hk => hk) ((show ∀ k_,w24.heap.size ≤ k_ → (fun _ => True) k_ from fun k_ hk => trivial) _ (Nat.le_refl _)) (Below.refl _ _) (Nat.le_refl _) (by simp) ?_;(case hd => rfl);(case hg => rfl);(case hr => first | (go_simp;done) | (go_simp;rfl));(case hp => exact (Reps.one (show Kd.FK (Kd.slice 52 (Kd.int .u32)) _ _ y160 [.slice Ao22 y160.length co22] from (Kd.zKx (Kd.zQg (Kd.zQh (ok' := (fun _ => True)) (HO164.out) (fun k_ hk => trivial))).2.1 (Kd.V_F (Kd.zQh (ok' := (fun _ => True)) (HO164.out) (fun k_ hk => trivial))))) (Reps.one (show Kd.FK (Kd.slice 52 (Kd.int .u32)) _ _ t170 [.slice Ao25 t170.length co25] from (Kd.zKx (Kd.zQg (Kd.zQh (ok' := (fun _ => True)) (HO172.out) (fun k_ hk => trivial))).2.1 (Kd.V_F (Kd.zQh (ok' := (fun _ => True)) (HO172.out) (fun k_ hk => trivial))))) (Reps.none _ _))));intro v174 w26 ho27 hb hg_ hnew_;clear hg_ hnew_;(first | rw [← Ny173.out] at ho27 | (simp only [Int.reduceToNat] at ho27;rw [← Ny173.out] at ho27));have n0_ := am (Kd.zQw (pR HO159.out) hb);have n1_ := am (Kd.zQH (pV HO164.out) (Kd.zVO ho27) hb);have n2_ := am (Kd.zQH (pV HO169.out) (Kd.zVO ho27) hb);have n3_ := am (Kd.zQH (pV HO172.out) (Kd.zVO ho27) hb);have n4_ := am (Kd.zHH ho27 (zQa pB));have n5_ := bS hb;clear HO159 HO164 HO169 HO172 HB;have HO159 := n0_;have HO164 := n1_;have HO169 := n2_;have HO172 := n3_;have HO175 := n4_;have HB := n5_;clear n0_ n1_ n2_ n3_ n4_ n5_ hb ho27;obtain ⟨Ao28,co28,eo28⟩ := Kd.zHG HO175.out;(first | subst eo28 | (injection eo28 with f1_ f2_ f3_;have f4_ := f1_.symm;have f5_ := f3_.symm;clear f1_ f2_ f3_;subst f4_;subst f5_));refine hK.out _ _ trivial (fun hHeld => ?_);clear hK K
       refine norm_ (a' := ?_) ?_ ?_
       rotate_left
       ·show Act.put _ (some 30) _ = _
        exact pA
       refine one_ (i := 13) (N := some 31) (bm 15 16383) rfl rfl (zXa HT_.out (by kernel_rfl)) (by decide) (fun K hK => ?_)
       refine goes_ Tryz.func61 (by kernel_rfl) rfl #[.slice Ao28 y173.length co28] (by rfl) rfl rfl pM ?_
       with_reducible refine (slices_Concat.calls _ _ y173 t176 _ ?side1 ?side2 A16.out).mono ?_
       (case side1 => exact pC (Kd.zBr HO175.out).2.2);(case side2 => exact (Kd.zBr HO175.out).2.1);rintro e w29 ⟨v177,rfl,ho0,hb⟩;refine ⟨_,rfl,?_⟩;have n0_ := am (Kd.zQl (pR HO159.out) (Kd.zQn ho0) hb);have n1_ := am (Kd.zQH (pV HO164.out) (Kd.zQn ho0) hb);have n2_ := am (Kd.zQH (pV HO169.out) (Kd.zQn ho0) hb);have n3_ := am (Kd.zQH (pV HO172.out) (Kd.zQn ho0) hb);have n4_ := am (Kd.zGE (pN HO175.out) (Kd.zQn ho0) hb);have n5_ := am (Kd.zQr (Kd.zQt ho0 (Kd.R_lt (pR HO159.out))) (zQa pB));have n6_ := bS hb;clear HO159 HO164 HO169 HO172 HO175 HB;have HO159 := n0_;have HO164 := n1_;have HO169 := n2_;have HO172 := n3_;have HO175 := n4_;have HO178 := n5_;have HB := n6_;clear n0_ n1_ n2_ n3_ n4_ n5_ n6_;(try clear hb);(try clear ho0);refine hK.out _ _ trivial (fun hHeld => ?_);clear hK K
       refine norm_ (a' := ?_) ?_ ?_
       rotate_left
       ·show Act.put _ (some 31) _ = _
        exact pA
       refine pure_ (i := 14) (N := some 4) (v := ?_) (a' := ?_) (bm 15 32767) rfl rfl (zQB HT_.out (by kernel_rfl)) (fun _ _ _ h => h) (Or.inl ⟨by kernel_rfl,?_⟩) ?_ ?_
       rotate_left
       ·intro w';go_simp;with_reducible rfl
       rotate_left
       ·exact pA
       refine done_ (zYx HT_.out (by kernel_rfl)) ?_
       try go_wp2
       go_ret
       exact ⟨_,by first | rfl | (simp [zQy,zQx] <;> rfl) | (simp only [← hji3,← hji12,← hji14];first | rfl | (simp [zQy,zQx] <;> rfl)) | (simp [*,zQy,zQx] <;> rfl),by (with_reducible repeat (first | apply Kd.zQo | apply Kd.zQj | apply Kd.zQs));exact Kd.zQu HO178.out (fun _ hk => trivial),pB⟩
      ·rw [if_neg c13] at H
       cases H
     ·rw [if_neg c9] at H
      cases H
    ·rw [if_neg c7] at H
     cases H
   ·rw [if_neg c6] at H
    cases H
  ·rw [if_neg c5] at H
   cases H
 ·rw [if_neg c4] at H
  cases H
def b_cmp.l0 : Nat → List Int → List Int → Int → Option (Int)
 | 0,_,_,_ => none
 | k + 1,x0,x1,x5 => if x5 ≥ 0 then (if 0 ≤ x5 then (if x5 < (x0.length : Int) then (if x5 < (x1.length : Int) then (if (rd x0 x5) = (rd x1 x5) then (b_cmp.l0 k x0 x1 (wrap64 (x5 - 1))) else (if (rd x0 x5) < (rd x1 x5) then (some (-1)) else (some 1))) else (none)) else (none)) else (none)) else (some 0)
def b_cmp.f (k : Nat) (l0 : List Int) (l1 : List Int) : Option (Int) := if (l0.length : Int) = (l1.length : Int) then (b_cmp.l0 k l0 l1 (wrap64 ((l0.length : Int) - 1))) else (some (wrap64 ((l0.length : Int) - (l1.length : Int))))
theorem b_cmp.mono_l : ∀ k,(∀ y0 y1 y2,LeO (b_cmp.l0 k y0 y1 y2) (b_cmp.l0 (k + 1) y0 y1 y2))
 | 0 => fun _ _ _ r h => by simp [b_cmp.l0] at h
 | k + 1 => by
  have ih0 := b_cmp.mono_l k
  ·intro y0 y1 y2;unfold b_cmp.l0;repeat' first
   | (with_reducible exact ih0 _ _ _)
   | (with_reducible exact LeO.refl _)
   | (with_reducible exact LeO.none _)
   | (with_reducible refine LeO.ite ?_ ?_)
   | (with_reducible refine LeO.bind ?_ (fun _ => ?_))
   | exact ih0 _ _ _
   | exact LeO.none _
   | refine LeO.ite ?_ ?_
   | refine LeO.bind ?_ (fun _ => ?_)
theorem b_cmp.mono : ∀ a0 a1 k,LeO (b_cmp.f k a0 a1) (b_cmp.f (k + 1) a0 a1) := by
 intro a0 a1 k;have ih0 := b_cmp.mono_l k;unfold b_cmp.f
 repeat' first
   | (with_reducible exact ih0 _ _ _)
   | (with_reducible exact LeO.refl _)
   | (with_reducible exact LeO.none _)
   | (with_reducible refine LeO.ite ?_ ?_)
   | (with_reducible refine LeO.bind ?_ (fun _ => ?_))
   | exact ih0 _ _ _
   | exact LeO.none _
   | refine LeO.ite ?_ ?_
   | refine LeO.bind ?_ (fun _ => ?_)
set_option maxHeartbeats 8000000 in
set_option maxRecDepth 100000 in
theorem b_cmp.calls (k : Nat) (A0 : Option Addr) (c0 : Nat) (l0 : List Int) (A1 : Option Addr) (c1 : Nat) (l1 : List Int) (r : Int) (w : World) (hr0 : Kd.C (Kd.int .u32) w A0 l0.length l0) (hc0 : l0.length ≤ c0) (hr1 : Kd.C (Kd.int .u32) w A1 l1.length l1) (hc1 : l1.length ≤ c1) (h : b_cmp.f k l0 l1 = some r) :
  Calls Tryz.prog 45 #[.slice A0 l0.length c0,.slice A1 l1.length c1] w fun e w' => e = .returned (.int .i64 r) ∧ Drawn0 w w' := by
 have HR0 := am hr0;have HC0 := am hc0;clear hr0 hc0;have HR1 := am hr1;have HC1 := am hc1;clear hr1 hc1;have H : (if (l0.length : Int) = (l1.length : Int) then (b_cmp.l0 k l0 l1 (wrap64 ((l0.length : Int) - 1))) else (some (wrap64 ((l0.length : Int) - (l1.length : Int))))) = some r := h;clear h;by_cases c3 : (l0.length : Int) = (l1.length : Int)
 ·rw [if_pos c3] at H;have c3b0 : ((l0.length : Int) == (l1.length : Int)) = true := beq_iff_eq.mpr c3;have c3b1 : ((l0.length : Int) != (l1.length : Int)) = false := bne_eq_false_iff_eq.mpr c3;(have c3b2 : (l0.length == l1.length) = true := by first | simpa using c3 | (simp at c3 ⊢;omega));clear c3;have H' := am H;clear H;go_enter Tryz.func45,Tryz.ntmps45;go_wp2;repeat (go_quiet (fail);try go_wp2)
  go_loopg [5] k (fun kq v5 w' => ∃ (x5_1 : Int),v5 = .int .i64 x5_1 ∧ Aside0 (b_cmp.l0 kq l0 l1 x5_1 = some r) ∧ Aside0 (kq ≤ k) ∧ Drawn0 w w')
  case atStart => exact ⟨(wrap64 ((l0.length : Int) - 1)),pS,H',⟨Nat.le_refl _⟩,pQ0⟩
  case round =>
   clear H';(try clear c1);(try clear p2);(try clear c3);(try clear c3b0);(try clear c3b1);(try clear c3b2);obtain ⟨x5_1,rfl,HA,HK1,⟨m1,rfl⟩⟩ := hrel
   cases gk with
   | zero => exact absurd HA.out (by simp [b_cmp.l0])
   | succ k1 =>
    have H := HA.out;clear HA;simp only [b_cmp.l0] at H;by_cases c4 : x5_1 ≥ 0
    ·rw [if_pos c4] at H;have c4b0 : decide (0 ≤ x5_1) = true := decide_eq_true c4;clear c4;by_cases c5 : 0 ≤ x5_1
     ·rw [if_pos c5] at H;have c5b0 : decide (0 ≤ x5_1) = true := decide_eq_true c5;clear c5;by_cases c6 : x5_1 < (l0.length : Int)
      ·rw [if_pos c6] at H;have c6b0 : decide (x5_1 < (l0.length : Int)) = true := decide_eq_true c6;clear c6;by_cases c7 : x5_1 < (l1.length : Int)
       ·rw [if_pos c7] at H;have c7b0 : decide (x5_1 < (l1.length : Int)) = true := decide_eq_true c7;clear c7;by_cases c8 : (rd l0 x5_1) = (rd l1 x5_1)
        ·rw [if_pos c8] at H;have c8b0 : ((rd l0 x5_1) == (rd l1 x5_1)) = true := beq_iff_eq.mpr c8;have c8b1 : ((rd l0 x5_1) != (rd l1 x5_1)) = false := bne_eq_false_iff_eq.mpr c8;clear c8;have H' := am H;clear H;have p179 : 0 ≤ (x5_1 : Int) := pD;have q179 : x5_1 < (l0.length : Int) := pD;obtain ⟨ad179,e179,hx179_0⟩ := Kd.zXg HR0.out x5_1 p179 q179
         cases e179
         replace p179 := eq_true p179;replace q179 := eq_true q179;have p180 : 0 ≤ (x5_1 : Int) := pD;have q180 : x5_1 < (l1.length : Int) := pD;obtain ⟨ad180,e180,hx180_0⟩ := Kd.zXg HR1.out x5_1 p180 q180
         cases e180
         replace p180 := eq_true p180;replace q180 := eq_true q180;go_wp2;repeat (go_quiet (fail);try go_wp2)
         go_roundg k1
         case measure => have := HK1.out;omega
         case rel => exact ⟨(wrap64 (x5_1 - 1)),pS,H',⟨by have := HK1.out;omega⟩,pQ0⟩
        ·rw [if_neg c8] at H;have c8b0 : ((rd l0 x5_1) == (rd l1 x5_1)) = false := beq_eq_false_iff_ne.mpr c8;have c8b1 : ((rd l0 x5_1) != (rd l1 x5_1)) = true := bne_iff_ne.mpr c8;by_cases c9 : (rd l0 x5_1) < (rd l1 x5_1)
         ·rw [if_pos c9] at H;have c9b0 : decide ((rd l0 x5_1) < (rd l1 x5_1)) = true := decide_eq_true c9;clear c9;obtain rfl := Option.some.inj H;have p179 : 0 ≤ (x5_1 : Int) := pD;have q179 : x5_1 < (l0.length : Int) := pD;obtain ⟨ad179,e179,hx179_0⟩ := Kd.zXg HR0.out x5_1 p179 q179
          cases e179
          replace p179 := eq_true p179;replace q179 := eq_true q179;have p180 : 0 ≤ (x5_1 : Int) := pD;have q180 : x5_1 < (l1.length : Int) := pD;obtain ⟨ad180,e180,hx180_0⟩ := Kd.zXg HR1.out x5_1 p180 q180
          cases e180
          replace p180 := eq_true p180;replace q180 := eq_true q180;have p181 : 0 ≤ (x5_1 : Int) := pD;have q181 : x5_1 < (l0.length : Int) := pD;obtain ⟨ad181,e181,hx181_0⟩ := Kd.zXg HR0.out x5_1 p181 q181;obtain rfl : ad179 = ad181 := (by injection e181);replace p181 := eq_true p181;replace q181 := eq_true q181;have p182 : 0 ≤ (x5_1 : Int) := pD;have q182 : x5_1 < (l1.length : Int) := pD;obtain ⟨ad182,e182,hx182_0⟩ := Kd.zXg HR1.out x5_1 p182 q182;obtain rfl : ad180 = ad182 := (by injection e182);replace p182 := eq_true p182;replace q182 := eq_true q182;go_wp2;repeat (go_quiet (fail);try go_wp2)
          go_ret
          exact ⟨pS,pQ0⟩
         ·rw [if_neg c9] at H;have c9b0 : decide ((rd l0 x5_1) < (rd l1 x5_1)) = false := decide_eq_false c9;clear c9;obtain rfl := Option.some.inj H;have p179 : 0 ≤ (x5_1 : Int) := pD;have q179 : x5_1 < (l0.length : Int) := pD;obtain ⟨ad179,e179,hx179_0⟩ := Kd.zXg HR0.out x5_1 p179 q179
          cases e179
          replace p179 := eq_true p179;replace q179 := eq_true q179;have p180 : 0 ≤ (x5_1 : Int) := pD;have q180 : x5_1 < (l1.length : Int) := pD;obtain ⟨ad180,e180,hx180_0⟩ := Kd.zXg HR1.out x5_1 p180 q180
          cases e180
          replace p180 := eq_true p180;replace q180 := eq_true q180;have p181 : 0 ≤ (x5_1 : Int) := pD;have q181 : x5_1 < (l0.length : Int) := pD;obtain ⟨ad181,e181,hx181_0⟩ := Kd.zXg HR0.out x5_1 p181 q181;obtain rfl : ad179 = ad181 := (by injection e181);replace p181 := eq_true p181;replace q181 := eq_true q181;have p182 : 0 ≤ (x5_1 : Int) := pD;have q182 : x5_1 < (l1.length : Int) := pD;obtain ⟨ad182,e182,hx182_0⟩ := Kd.zXg HR1.out x5_1 p182 q182;obtain rfl : ad180 = ad182 := (by injection e182);replace p182 := eq_true p182;replace q182 := eq_true q182;go_wp2;repeat (go_quiet (fail);try go_wp2)
          go_ret
          exact ⟨pS,pQ0⟩
       ·rw [if_neg c7] at H
        cases H
      ·rw [if_neg c6] at H
       cases H
     ·rw [if_neg c5] at H
      cases H
    ·rw [if_neg c4] at H;have c4b0 : decide (0 ≤ x5_1) = false := decide_eq_false c4;clear c4;obtain rfl := Option.some.inj H;go_wp2;repeat (go_quiet (fail);try go_wp2)
     go_ret
     exact ⟨pS,pQ0⟩
 ·rw [if_neg c3] at H;have c3b0 : ((l0.length : Int) == (l1.length : Int)) = false := beq_eq_false_iff_ne.mpr c3;have c3b1 : ((l0.length : Int) != (l1.length : Int)) = true := bne_iff_ne.mpr c3;(have c3b2 : (l0.length == l1.length) = false := by first | simpa using c3 | (simp at c3 ⊢;omega));obtain rfl := Option.some.inj H;go_enter Tryz.func45,Tryz.ntmps45;go_wp2;repeat (go_quiet (fail);try go_wp2)
  go_ret
  exact ⟨pS,pQ0⟩
end Go.Proofs.YtflcanpajgpghaaGreatDoor.Pr
end
